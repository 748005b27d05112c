/- Texts of the proof, laid together: FrameOfWalk ConnFrame. -/
import Derived.Test.YtbcagdjfegobnaaGreatC19
import Derived.Test.YtbcagdjfegobnaaGreatC08
import Derived.Test.YtbcagdjfegobnaaGreatC39
import Derived.Test.YtbcagdjfegobnaaGreatC04
import Derived.Test.YtbcagdjfegobnaaGreatC41
import Derived.Laws.IdiomStrings
import Derived.Test.YtbcagdjfegobnaaGreatC15
import Derived.Test.YtbcagdjfegobnaaGreatC37
import Derived.Test.YtbcagdjfegobnaaGreatC13
/- The contract of frameOf. (Printed by gen_frameof.py.) -/
namespace Go.Proofs.YtbcagdjfegobnaaGreat
open Go.ChangeShapes Go.WideShapes Go.ChangeAt Go.RowKit
set_option linter.unusedVariables false

theorem bytes_rdF (w : World) (e : TypeId) (s : ByteArray) (cap : Nat) (fr : Nat × Nat) : RdB (w.drew.alloc (.cells (bytesRow s cap) e fr)) (some ⟨w.heap.size, 0, none⟩) (bts s) := by
  refine ⟨by simp [u8s], fun hn => ⟨w.heap.size, 0, rfl, fun j u hu => ?_⟩⟩
  have hj : j < s.data.size := by
    have := (List.getElem?_eq_some_iff.1 hu).1
    rw [u8s_length] at this; simpa [bts] using this
  have hb : (w.drew.alloc (.cells (bytesRow s cap) e fr)).heap[w.heap.size]? = some (.cells (bytesRow s cap) e fr) := heap_alloc_new w.drew _
  rw [cell_of_row _ w.heap.size _ _ e fr hb, Nat.zero_add, bytesRow_at s cap j hj]
  rw [u8s_get _ _ (by rw [bts_len]; exact hj)] at hu
  rw [← hu]
  simp only [bts, List.getD, Array.getElem?_toList, Array.getElem?_eq_getElem hj, Option.getD_some]
theorem beqF (q : Nat) : ((q : Int) == 0) = (q == 0) := by
  by_cases h : q = 0
  · subst h; rfl
  · have h1 : ((q : Int) == 0) = false := by simp [h]
    have h2 : (q == 0) = false := by simp [h]
    rw [h1, h2]
theorem bytes_rdF2 (w : World) (e : TypeId) (s : ByteArray) (cap : Nat) (fr : Nat × Nat) {H : Nat} (hH : w.heap.size = H) : RdB (w.alloc (.cells (bytesRow s cap) e fr)) (some ⟨H, 0, none⟩) (bts s) := by
  subst hH; exact bytes_rdF w e s cap fr
theorem mod_nat (n m : Int) (hm : 0 < m) : ∃ y : Nat, Hid (n % m = (y : Int)) ∧ (y : Int) < m := by
  obtain ⟨y, h, h0, h1⟩ := mod_ex n m hm
  exact ⟨y.toNat, by show _ = _; rw [h.out]; omega, by omega⟩
theorem Blk.factsFz {w : World} {g : Nat} {t : TypeId} {a b c d e f k : Value} (h : Blk w g t #[a, b, c, d, e, f, k]) : g < w.heap.size ∧ w.cell? ⟨g, 0, none⟩ = some a ∧ w.cell? ⟨g, 1, none⟩ = some b ∧ w.cell? ⟨g, 2, none⟩ = some c ∧ w.cell? ⟨g, 3, none⟩ = some d ∧ w.cell? ⟨g, 4, none⟩ = some e ∧ w.cell? ⟨g, 5, none⟩ = some f ∧ w.cell? ⟨g, 6, none⟩ = some k ∧
    w.frozen? ⟨g, 0, none⟩ = false ∧ w.frozen? ⟨g, 1, none⟩ = false ∧ w.frozen? ⟨g, 2, none⟩ = false ∧ w.frozen? ⟨g, 3, none⟩ = false ∧ w.frozen? ⟨g, 4, none⟩ = false ∧ w.frozen? ⟨g, 5, none⟩ = false ∧ w.frozen? ⟨g, 6, none⟩ = false :=
  ⟨h.lt, by rw [h.cell]; rfl, by rw [h.cell]; rfl, by rw [h.cell]; rfl, by rw [h.cell]; rfl, by rw [h.cell]; rfl, by rw [h.cell]; rfl, by rw [h.cell]; rfl, h.frozen 0, h.frozen 1, h.frozen 2, h.frozen 3, h.frozen 4, h.frozen 5, h.frozen 6⟩

theorem RdB.asF {w : World} {A : Option Addr} {n : Nat} {bs : List UInt8} (h : Rd w 1 A n (u8s bs)) (hn : bs.length = n) : RdB w A bs := by subst hn; exact h
/-- The ranges of an Ack. -/
def ofRngs (lo x y n : Nat) : List Rng := [((lo : Int) + 40, (lo : Int) + 50), ((lo : Int) + 20, (lo : Int) + 20 + x), ((lo : Int), (lo : Int) + y)].take (1 + n)
/-- The frame that is made of a raw thing. -/
def frOf (k a b q99 q2 q3 q18 q5 q50 : Nat) (ds : List UInt8) : FrD :=
  match k with
  | 0 => ⟨1, 0, 0, false, 0, [], []⟩
  | 1 => ⟨2, 0, 0, false, 0, ofRngs q50 q18 q5 q3, []⟩
  | 2 => ⟨4, a, b, false, q99, [], []⟩
  | 3 => ⟨5, a, 0, false, b, [], []⟩
  | 4 => ⟨6, 0, b / 2, false, 0, [], ds⟩
  | 5 => ⟨7, 0, 0, false, 0, [], ds⟩
  | 6 => ⟨8, a, b / 2, q2 == 0, 0, [], ds⟩
  | 7 => ⟨8, a, b / 2, q2 == 0, 0, [], ds⟩
  | 8 => ⟨16, 0, a, false, 0, [], []⟩
  | 9 => ⟨17, a, b, false, 0, [], []⟩
  | 10 => ⟨18, 0, a, false, 0, [], []⟩
  | 11 => ⟨26, 0, 0, false, a, [], []⟩
  | 12 => ⟨28, 0, 0, false, a, [], []⟩
  | _ => ⟨if q2 = 0 then 0 else 30, 0, 0, false, 0, [], []⟩
theorem ofRngs_ok (lo x y n : Nat) (h0 : lo < 50) (h1 : x < 18) (h2 : y < 5) (h3 : n < 3) : goodDown 4611686018427387905 (ofRngs lo x y n) ∧ (ofRngs lo x y n).length = 1 + n := by
  rcases (show n = 0 ∨ n = 1 ∨ n = 2 by omega) with rfl | rfl | rfl
  all_goals
    refine ⟨?_, rfl⟩
    simp only [ofRngs, List.take_succ_cons, List.take_zero, goodDown, and_true]
    omega
theorem frOf_ok (k a b q99 q2 q3 q18 q5 q50 : Nat) (ds : List UInt8) (ha : a ≤ 4611686018427387903) (hb : b ≤ 4611686018427387903) (h99 : q99 < 99) (h2 : q2 < 2) (h3 : q3 < 3) (h18 : q18 < 18) (h5 : q5 < 5) (h50 : q50 < 50) (hd : ds.length ≤ 40) (hk : k < 14) : FrOk (frOf k a b q99 q2 q3 q18 q5 q50 ds) := by
  obtain ⟨g1, g2⟩ := ofRngs_ok q50 q18 q5 q3 h50 h18 h5 h3
  rcases (show k = 0 ∨ k = 1 ∨ k = 2 ∨ k = 3 ∨ k = 4 ∨ k = 5 ∨ k = 6 ∨ k = 7 ∨ k = 8 ∨ k = 9 ∨ k = 10 ∨ k = 11 ∨ k = 12 ∨ k = 13 by omega) with rfl | rfl | rfl | rfl | rfl | rfl | rfl | rfl | rfl | rfl | rfl | rfl | rfl | rfl
  case inr.inl =>
    refine ⟨rfl, by simp [frOf], by show (ofRngs q50 q18 q5 q3).length ≤ 6; omega, by simp [frOf], fun _ => rfl, by simp [frOf], fun _ => rfl, by simp [frOf], fun _ => rfl, by simp [frOf, pData], fun _ => rfl, fun _ => rfl, ?_, g1⟩
    refine ⟨fun _ h => ?_, fun _ => rfl⟩
    have h' : ofRngs q50 q18 q5 q3 = [] := h
    rw [h'] at g2
    simp at g2; omega
  case inr.inr.inr.inr.inr.inr.inr.inr.inr.inr.inr.inr.inr =>
    rcases (show q2 = 0 ∨ q2 = 1 by omega) with rfl | rfl
    all_goals exact ⟨rfl, by simp [frOf], by simp [frOf], by simp [frOf], fun _ => rfl, by simp [frOf], fun _ => rfl, by simp [frOf], fun _ => rfl, by simp [frOf, pData], fun _ => rfl, fun _ => rfl, by simp [frOf], trivial⟩
  all_goals
    exact ⟨rfl, by simp [frOf] <;> omega, by simp [frOf], by simp [frOf] <;> omega, by simp [frOf, pId], by simp [frOf] <;> omega, by simp [frOf, pOff], by simp [frOf] <;> omega, by simp [frOf, pCode], by simp [frOf, pData] <;> omega, by simp [frOf, pData], by simp [frOf, pFin], by simp [frOf], trivial⟩

/-- A block that was made on the way from w to w'. -/
def FrIn (w w' : World) (A : Option Addr) : Prop := ∀ a, A = some a → w.heap.size ≤ a.block ∧ a.block < w'.heap.size
theorem frIn_none (w w' : World) : FrIn w w' none := fun a h => by cases h
theorem frIn_some {w w' : World} {g o : Nat} (h1 : w.heap.size ≤ g) (h2 : g < w'.heap.size) : FrIn w w' (some ⟨g, o, none⟩) := fun a h => by
  injection h with h; subst h; exact ⟨h1, h2⟩
/-- What frameOf answers. -/
def FrOut (w : World) (f : FrD) (e : Ending) (w' : World) : Prop := ∃ (A : Option Addr) (c : Nat) (B : Option Addr) (d : Nat), e = .returned (.agg (frcells f A c B d)) ∧ RdX rcells 2 w' A f.rngs ∧ RdB w' B f.data ∧ f.rngs.length ≤ c ∧ c ≤ 9223372036854775807 ∧ f.data.length ≤ d ∧ d ≤ 9223372036854775807 ∧ Below w.heap.size w w' ∧ FrIn w w' A ∧ FrIn w w' B
theorem encB_leF (n : Nat) : (encB n).length ≤ 8 := by
  rw [encB_length]; unfold sizeI; split <;> (try split) <;> (try split) <;> (try split) <;> decide
theorem fenc_bound (f : FrD) : (fenc f).length ≤ 8 + (encRng f.rngs).length + (if pId f.kind then 8 else 0) + (if pOff f.kind then 8 else 0) + (if pWord f.kind || pCode f.kind then 8 else 0) + (if pData f.kind then 8 + f.data.length else 0) := by
  have h1 := encB_leF (fkind f)
  have h3 : (encIf (pId f.kind) f.id).length ≤ (if pId f.kind then 8 else 0) := by unfold encIf; split <;> simp [encB_leF]
  have h4 : (encIf (pOff f.kind) f.off).length ≤ (if pOff f.kind then 8 else 0) := by unfold encIf; split <;> simp [encB_leF]
  have h5 : (encC (pWord f.kind) (pCode f.kind) f.code).length ≤ (if pWord f.kind || pCode f.kind then 8 else 0) := by
    unfold encC encIf
    cases pWord f.kind <;> cases pCode f.kind <;> simp [beB_length, encB_leF]
  have h6 : (encD (pData f.kind) f.data).length ≤ (if pData f.kind then 8 + f.data.length else 0) := by
    unfold encD
    cases pData f.kind
    · simp
    · have := encB_leF f.data.length; simp; omega
  unfold fenc
  simp only [List.length_append]
  generalize (if pId f.kind then 8 else 0) = x1 at *
  generalize (if pOff f.kind then 8 else 0) = x2 at *
  generalize (if pWord f.kind || pCode f.kind then 8 else 0) = x3 at *
  generalize (if pData f.kind then 8 + f.data.length else 0) = x4 at *
  omega
theorem ofRngs_len (lo x y n : Nat) (h : n < 3) : (encRng (ofRngs lo x y n)).length ≤ 56 := by
  rcases (show n = 0 ∨ n = 1 ∨ n = 2 by omega) with rfl | rfl | rfl
  all_goals
    simp only [ofRngs, List.take_succ_cons, List.take_zero, encRng, encRs, List.length_append, List.length_nil, List.length_cons]
  · have := encB_leF ((lo : Int) + 50).toNat; have := encB_leF 0; have := encB_leF ((lo : Int) + 50 - ((lo : Int) + 40)).toNat
    omega
  · have := encB_leF ((lo : Int) + 50).toNat; have := encB_leF (0 + 1); have := encB_leF ((lo : Int) + 50 - ((lo : Int) + 40)).toNat
    have := encB_leF ((lo : Int) + 40 - ((lo : Int) + 20 + x) - 2).toNat; have := encB_leF ((lo : Int) + 20 + x - ((lo : Int) + 20)).toNat
    omega
  · have := encB_leF ((lo : Int) + 50).toNat; have := encB_leF (0 + 1 + 1); have := encB_leF ((lo : Int) + 50 - ((lo : Int) + 40)).toNat
    have := encB_leF ((lo : Int) + 40 - ((lo : Int) + 20 + x) - 2).toNat; have := encB_leF ((lo : Int) + 20 + x - ((lo : Int) + 20)).toNat
    have := encB_leF ((lo : Int) + 20 - ((lo : Int) + y) - 2).toNat; have := encB_leF ((lo : Int) + y - (lo : Int)).toNat
    omega
theorem frOf_len (k a b q99 q2 q3 q18 q5 q50 : Nat) (ds : List UInt8) (h2 : q2 < 2) (h3 : q3 < 3) (hd : ds.length ≤ 40) (hk : k < 14) : (fenc (frOf k a b q99 q2 q3 q18 q5 q50 ds)).length ≤ 72 := by
  have h := fenc_bound (frOf k a b q99 q2 q3 q18 q5 q50 ds)
  have hr := ofRngs_len q50 q18 q5 q3 h3
  rcases (show k = 0 ∨ k = 1 ∨ k = 2 ∨ k = 3 ∨ k = 4 ∨ k = 5 ∨ k = 6 ∨ k = 7 ∨ k = 8 ∨ k = 9 ∨ k = 10 ∨ k = 11 ∨ k = 12 ∨ k = 13 by omega) with rfl | rfl | rfl | rfl | rfl | rfl | rfl | rfl | rfl | rfl | rfl | rfl | rfl | rfl
  case inr.inr.inr.inr.inr.inr.inr.inr.inr.inr.inr.inr.inr =>
    rcases (show q2 = 0 ∨ q2 = 1 by omega) with rfl | rfl <;> simp [frOf, pId, pOff, pCode, pWord, pData, show encRng [] = [] from rfl] at h ⊢ <;> omega
  all_goals simp [frOf, pId, pOff, pCode, pWord, pData, show encRng [] = [] from rfl] at h ⊢ <;> omega

set_option maxRecDepth 100000 in
set_option maxHeartbeats 16000000 in
theorem frameOf_small (r : RawD) (hr : RawOk r) : ∃ f : FrD, (FrOk f ∧ (fenc f).length ≤ 72) ∧ ∀ w, Calls Tryz.prog 30 #[rawV r] w (FrOut w f) := by
  obtain ⟨o0, o1, o2, o3⟩ := hr
  unfold maxLen at o3
  obtain ⟨k, HK, k1⟩ := mod_nat r.kind 14 (by decide)
  obtain ⟨q99, H99, h99⟩ := mod_nat r.a 99 (by decide)
  obtain ⟨q2, H2, h2⟩ := mod_nat r.a 2 (by decide)
  obtain ⟨q3, H3, h3⟩ := mod_nat r.a 3 (by decide)
  obtain ⟨q18, H18, h18⟩ := mod_nat r.a 18 (by decide)
  obtain ⟨q5, H5, h5⟩ := mod_nat r.a 5 (by decide)
  obtain ⟨q50, H50, h50⟩ := mod_nat r.b 50 (by decide)
  obtain ⟨a, ha⟩ : ∃ a, numN r.a = a := ⟨_, rfl⟩
  obtain ⟨b, hb⟩ : ∃ b, numN r.b = b := ⟨_, rfl⟩
  have hab := numN_le r.a
  have hbb := numN_le r.b
  rw [ha] at hab
  rw [hb] at hbb
  have HNA : Hid (∀ W, Calls Tryz.prog 63 #[.int .i64 r.a] W fun e w' => e = .returned (.int .i64 (a : Nat)) ∧ W = w') := fun W => by have := number_nat r.a W; rwa [ha] at this
  have HNB : Hid (∀ W, Calls Tryz.prog 63 #[.int .i64 r.b] W fun e w' => e = .returned (.int .i64 (b : Nat)) ∧ W = w') := fun W => by have := number_nat r.b W; rwa [hb] at this
  clear ha hb
  obtain ⟨cs, hcs⟩ : ∃ cs, cutS r.text 40 = cs := ⟨_, rfl⟩
  have hcs40 : cs.size ≤ 40 := by rw [← hcs]; exact cutS_size _ _
  have HCS : Hid (∀ W, Calls Tryz.prog 29 #[.string r.text, .int .i64 40] W fun e w' => e = .returned (.string cs) ∧ W = w') := fun W => by
    have := cutS_any r.text 40 o3 (by decide) W
    rw [hcs] at this; exact this
  clear hcs
  refine ⟨frOf k a b q99 q2 q3 q18 q5 q50 (bts cs), ⟨frOf_ok k a b q99 q2 q3 q18 q5 q50 (bts cs) (by omega) (by omega) (by omega) (by omega) (by omega) (by omega) (by omega) (by omega) (by rw [bts_len]; exact hcs40) (by omega), frOf_len k a b q99 q2 q3 q18 q5 q50 (bts cs) (by omega) (by omega) (by rw [bts_len]; exact hcs40) (by omega)⟩, fun w => ?_⟩
  have hcv : ∀ W, (convert 9 30 (.string cs)).run Tryz.prog W = .ok (.slice (some ⟨W.heap.size, 0, none⟩) cs.size (grownCap W cs.size 0 5)) (W.drew.alloc (.cells (bytesRow cs (grownCap W cs.size 0 5)) 5 ((bytesRow cs (grownCap W cs.size 0 5)).size, (bytesRow cs (grownCap W cs.size 0 5)).size + 1))) := fun W => run_bytes_of_string W _ _ _ cs Tryz.underlying9 Tryz.underlying30 Tryz.underlying5
  unfold rawV
  go_enter Tryz.func30, Tryz.ntmps30
  go_wp2_with fail
  refine (HCS.out _).mono ?_
  rintro e w' ⟨rfl, rfl⟩
  go_upto_region 2 with (fail)
  obtain ⟨d, hd⟩ : ∃ d, grownCap ((w.alloc (.cells #[.int .i64 r.kind, .int .i64 r.a, .int .i64 r.b, .string r.text] 59)).alloc (.cells #[.int .i64 0, .int .i64 0, .int .i64 0, .bool false, .int .i64 0, .slice none 0 0, .slice none 0 0] 68)) cs.size 0 5 = d := ⟨_, rfl⟩
  have hd1 : cs.size ≤ d := by rw [← hd]; exact grownCap_ge _ _ _ _
  have hd2 : d ≤ 9223372036854775807 := by rw [← hd]; exact grownCap_le_maxLen _ _ _ _ (by unfold maxLen; omega)
  try rw [hd]
  refine wp_world (fun w' => Blk w' w.heap.size 59 #[.int .i64 r.kind, .int .i64 r.a, .int .i64 r.b, .string r.text] ∧ Blk w' (w.heap.size + 1) 68 #[.int .i64 0, .int .i64 0, .int .i64 0, .bool false, .int .i64 0, .slice none 0 0, .slice none 0 0] ∧ RdB w' (some ⟨w.heap.size + 2, 0, none⟩) (bts cs) ∧ w.heap.size + 2 < w'.heap.size ∧ Below w.heap.size w w') ⟨?_, ?_, ?_, ?_, ?_⟩ ?_
  · exact (((Blk.new _ _ _).alloc _).drew).alloc _
  · exact ((Blk.new1 _ _ _ _).drew).alloc _
  · refine Rd.drew ?_
    refine bytes_rdF2 _ _ _ _ _ ?_
    simp
  · simp
  · exact ((((Below.refl _ _).alloc (Nat.le_refl _) _).alloc (by simp) _).drew).alloc (by simp; omega) _
  rintro w2 ⟨hQ, hC, hR, hg, hb⟩
  have FQ := hQ.facts4
  have HQ := Lib.hid hQ
  have HC := Lib.hid hC
  have HR := Lib.hid hR
  have HB := Lib.hid hb
  clear hQ hC hR hb hcv
  go_region_held3 (fun w' => w'.cell? ⟨w.heap.size, 1, none⟩ = some (.int .i64 r.a) ∧ w'.cell? ⟨w.heap.size, 2, none⟩ = some (.int .i64 r.b)) (go_keep)
    (first
      | (go_at_call_of 63 (Value.int .i64 r.a); refine (HNA.out _).mono ?_; rintro e w' ⟨rfl, rfl⟩)
      | (go_at_call_of 63 (Value.int .i64 r.b); refine (HNB.out _).mono ?_; rintro e w' ⟨rfl, rfl⟩))
  go_upto_region 3 with (fail)
  refine wp_world (fun w' => Blk w' w.heap.size 59 #[.int .i64 r.kind, .int .i64 r.a, .int .i64 r.b, .string r.text] ∧ Blk w' (w.heap.size + 1) 68 #[.int .i64 0, .int .i64 0, .int .i64 0, .bool false, .int .i64 0, .slice none 0 0, .slice none 0 0] ∧ RdB w' (some ⟨w.heap.size + 2, 0, none⟩) (bts cs) ∧ w.heap.size + 2 < w'.heap.size ∧ Below w.heap.size w w') ⟨?_, ?_, ?_, ?_, ?_⟩ ?_
  · have h := HQ.out
    (apply Blk.as; (case h => (repeat (first | with_reducible exact h | with_reducible apply Blk.drew | with_reducible apply Blk.set4 | with_reducible apply Blk.set_ | (with_reducible apply Blk.far4 (hne := ?side); case side => (first | omega | (simp; omega) | (simp; done))) | (with_reducible apply Blk.far (hp := ?side); case side => (first | omega | (simp; omega) | (simp; done))) | with_reducible apply Blk.alloc))); (case e => (first | with_reducible rfl | (simp; done) | rfl)))
  · have h := HC.out
    (apply Blk.as; (case h => (repeat (first | with_reducible exact h | with_reducible apply Blk.drew | with_reducible apply Blk.set4 | with_reducible apply Blk.set_ | (with_reducible apply Blk.far4 (hne := ?side); case side => (first | omega | (simp; omega) | (simp; done))) | (with_reducible apply Blk.far (hp := ?side); case side => (first | omega | (simp; omega) | (simp; done))) | with_reducible apply Blk.alloc))); (case e => (first | with_reducible rfl | (simp; done) | rfl)))
  · have h := HR.out
    exact h
  · exact hg
  · have h := HB.out
    (repeat (first | with_reducible exact h | with_reducible refine Below.drew ?_ | (with_reducible refine Below.set4 ?_ ?side _ _ _ _; case side => (first | omega | (simp; omega) | (simp; done))) | (with_reducible refine Below.setCell ?_ ?side _; case side => (first | omega | (simp; omega) | (simp; done))) | (with_reducible refine Below.alloc ?_ ?side _; case side => (first | omega | (simp; omega) | (simp; done)))))
  clear FQ HQ HC HR HB hg
  rintro w3 ⟨hQ, hC, hR, hg, hb⟩
  have FQ := hQ.facts4
  have FC := hC.factsFz
  have HR := Lib.hid hR
  have HB := Lib.hid hb
  have HQ := Lib.hid hQ
  have HC := Lib.hid hC
  have hq1 : IntKind.i64.wrap (Int.tdiv (b : Int) 2) = ((b / 2 : Nat) : Int) := by
    rw [Int.tdiv_eq_ediv_of_nonneg (by omega), IntKind.wrap_i64]; omega
  have hgw : w.heap.size ≠ w.heap.size + 1 := by omega
  clear hQ hC hR hb
  go_wp2_with fail
  refine (picked_at r.kind 14 k o0.1 o0.2 (by decide) (by decide) HK _).mono ?_
  rintro e w' ⟨rfl, rfl⟩
  rcases (show k = 0 ∨ k = 1 ∨ k = 2 ∨ k = 3 ∨ k = 4 ∨ k = 5 ∨ k = 6 ∨ k = 7 ∨ k = 8 ∨ k = 9 ∨ k = 10 ∨ k = 11 ∨ k = 12 ∨ k = 13 by omega) with rfl | rfl | rfl | rfl | rfl | rfl | rfl | rfl | rfl | rfl | rfl | rfl | rfl | rfl
  · go_wp2_with fail
    refine bodyPost_ret (v := .agg #[.int .i64 1, .int .i64 0, .int .i64 0, .bool false, .int .i64 0, .slice none 0 0, .slice none 0 0]) ?_ rfl ⟨none, 0, none, 0, ?_, RdX.nil, RdB.nil, Nat.le_refl _, by decide, Nat.le_refl _, by decide, ?_, frIn_none _ _, frIn_none _ _⟩
    · simp [results, Tryz.results30, go_sem, FC] <;> rfl
    · first | rfl | (simp [frOf, frcells, bts_len]; done) | (simp [frOf, frcells, bts_len, beqF])
    · have h := HB.out
      (repeat (first | with_reducible exact h | with_reducible refine Below.drew ?_ | (with_reducible refine Below.set4 ?_ ?side _ _ _ _; case side => (first | omega | (simp; omega) | (simp; done))) | (with_reducible refine Below.setCell ?_ ?side _; case side => (first | omega | (simp; omega) | (simp; done))) | (with_reducible refine Below.alloc ?_ ?side _; case side => (first | omega | (simp; omega) | (simp; done)))))
  · have hw1 : IntKind.i64.wrap ((q50 : Int) + 40) = (q50 : Int) + 40 := IntWalk.i64_in _ (by omega)
    have hw2 : IntKind.i64.wrap ((q50 : Int) + 50) = (q50 : Int) + 50 := IntWalk.i64_in _ (by omega)
    have hw3 : IntKind.i64.wrap ((q50 : Int) + 20) = (q50 : Int) + 20 := IntWalk.i64_in _ (by omega)
    have hw4 : IntKind.i64.wrap ((q50 : Int) + 20 + (q18 : Int)) = (q50 : Int) + 20 + (q18 : Int) := IntWalk.i64_in _ (by omega)
    have hw5 : IntKind.i64.wrap ((q50 : Int) + (q5 : Int)) = (q50 : Int) + (q5 : Int) := IntWalk.i64_in _ (by omega)
    go_wp2_with fail
    refine (picked_at r.b 50 q50 o2.1 o2.2 (by decide) (by decide) H50 _).mono ?_
    rintro e w' ⟨rfl, rfl⟩
    go_upto_region 8 with (fail)
    go_region_held3 (fun w' => w'.cell? ⟨w.heap.size, 1, none⟩ = some (.int .i64 r.a)) (go_keep)
      (first
        | (go_at_call_of 15 (Value.int .i64 18); refine (picked_at r.a 18 q18 o1.1 o1.2 (by decide) (by decide) H18 _).mono ?_; rintro e w' ⟨rfl, rfl⟩)
        | (go_at_call_of 15 (Value.int .i64 5); refine (picked_at r.a 5 q5 o1.1 o1.2 (by decide) (by decide) H5 _).mono ?_; rintro e w' ⟨rfl, rfl⟩))
    go_upto_region 9 with (fail)
    refine wp_world (fun w' => Blk w' w3.heap.size 116 #[.int .i64 ((q50 : Int) + 40), .int .i64 ((q50 : Int) + 50), .int .i64 ((q50 : Int) + 20), .int .i64 ((q50 : Int) + 20 + (q18 : Int)), .int .i64 (q50 : Int), .int .i64 ((q50 : Int) + (q5 : Int))] ∧ Blk w' w.heap.size 59 #[.int .i64 r.kind, .int .i64 r.a, .int .i64 r.b, .string r.text] ∧ Blk w' (w.heap.size + 1) 68 #[.int .i64 0, .int .i64 0, .int .i64 0, .bool false, .int .i64 0, .slice none 0 0, .slice none 0 0] ∧ Below w.heap.size w w') ⟨(Blk.new _ _ _).drew, (HQ.out.alloc _).drew, (HC.out.alloc _).drew, ?_⟩ ?_
    · have h := HB.out
      exact (h.alloc h.size _).drew
    clear FQ FC HR HB HQ HC hw1 hw2 hw3 hw4 hw5
    have hgl3 : w.heap.size + 2 < w3.heap.size := hg
    generalize w3.heap.size = G at *
    rintro w4 ⟨hR, hQ, hC, hb⟩
    have FQ := hQ.facts4
    have FC := hC.factsFz
    have HR := Lib.hid hR
    have HB := Lib.hid hb
    have hw6 : IntKind.i64.wrap (1 + (q3 : Int)) = 1 + (q3 : Int) := IntWalk.i64_in _ (by omega)
    have hz1 : (0 : Int) ≤ 1 + (q3 : Int) := by omega
    have hz2 : 1 + (q3 : Int) ≤ 3 := by omega
    have hz3 : (1 + (q3 : Int)).toNat = 1 + q3 := by omega
    clear hQ hC hR hb
    go_wp2_with fail
    refine (picked_at r.a 3 q3 o1.1 o1.2 (by decide) (by decide) H3 _).mono ?_
    rintro e w' ⟨rfl, rfl⟩
    go_wp2_with fail
    refine bodyPost_ret (v := .agg #[.int .i64 2, .int .i64 0, .int .i64 0, .bool false, .int .i64 0, .slice (some ⟨G, 0, none⟩) (1 + q3) 3, .slice none 0 0]) ?_ rfl ⟨some ⟨G, 0, none⟩, 3, none, 0, ?_, ?_, RdB.nil, ?_, by decide, Nat.le_refl _, by decide, ?_, frIn_some (w := w) (g := G) (by omega) ?_, frIn_none _ _⟩
    · simp [results, Tryz.results30, go_sem, FC] <;> rfl
    · simp only [frOf, frcells, (ofRngs_ok q50 q18 q5 q3 (by omega) (by omega) (by omega) (by omega)).2]; rfl
    · have h := HR.out
      have hx : RdX rcells 2 w4 (some ⟨G, 0, none⟩) [((q50 : Int) + 40, (q50 : Int) + 50), ((q50 : Int) + 20, (q50 : Int) + 20 + q18), ((q50 : Int), (q50 : Int) + q5)] := Rd.of_blk h rfl
      have hy := RdX.front rcells_len hx (k := 1 + q3) (by show 1 + q3 ≤ 3; omega)
      have hy : Rd w4 2 (some ⟨G, 0, none⟩) (frOf 1 a b q99 q2 q3 q18 q5 q50 (bts cs)).rngs.length ((frOf 1 a b q99 q2 q3 q18 q5 q50 (bts cs)).rngs.flatMap rcells) := hy
      show Rd _ 2 (some ⟨G, 0, none⟩) (frOf 1 a b q99 q2 q3 q18 q5 q50 (bts cs)).rngs.length ((frOf 1 a b q99 q2 q3 q18 q5 q50 (bts cs)).rngs.flatMap rcells)
      (repeat (first | with_reducible exact hy | with_reducible refine Rd.drew ?_ | (with_reducible refine Rd.farc ?_ ?side _; case side => (first | omega | (simp; omega) | (simp; done))) | with_reducible refine Rd.alloc ?_ _))
    · show (ofRngs q50 q18 q5 q3).length ≤ 3
      rw [(ofRngs_ok q50 q18 q5 q3 (by omega) (by omega) (by omega) (by omega)).2]; omega
    · have h := HB.out
      (repeat (first | with_reducible exact h | with_reducible refine Below.drew ?_ | (with_reducible refine Below.set4 ?_ ?side _ _ _ _; case side => (first | omega | (simp; omega) | (simp; done))) | (with_reducible refine Below.setCell ?_ ?side _; case side => (first | omega | (simp; omega) | (simp; done))) | (with_reducible refine Below.alloc ?_ ?side _; case side => (first | omega | (simp; omega) | (simp; done)))))
    · have h := HR.out.lt
      first | with_reducible exact h | (simp; omega)
  · go_wp2_with fail
    refine (picked_at r.a 99 q99 o1.1 o1.2 (by decide) (by decide) H99 _).mono ?_
    rintro e w' ⟨rfl, rfl⟩
    go_wp2_with fail
    refine bodyPost_ret (v := .agg #[.int .i64 4, .int .i64 a, .int .i64 b, .bool false, .int .i64 q99, .slice none 0 0, .slice none 0 0]) ?_ rfl ⟨none, 0, none, 0, ?_, RdX.nil, RdB.nil, Nat.le_refl _, by decide, Nat.le_refl _, by decide, ?_, frIn_none _ _, frIn_none _ _⟩
    · simp [results, Tryz.results30, go_sem, FC] <;> rfl
    · first | rfl | (simp [frOf, frcells, bts_len]; done) | (simp [frOf, frcells, bts_len, beqF])
    · have h := HB.out
      (repeat (first | with_reducible exact h | with_reducible refine Below.drew ?_ | (with_reducible refine Below.set4 ?_ ?side _ _ _ _; case side => (first | omega | (simp; omega) | (simp; done))) | (with_reducible refine Below.setCell ?_ ?side _; case side => (first | omega | (simp; omega) | (simp; done))) | (with_reducible refine Below.alloc ?_ ?side _; case side => (first | omega | (simp; omega) | (simp; done)))))
  · go_wp2_with fail
    refine bodyPost_ret (v := .agg #[.int .i64 5, .int .i64 a, .int .i64 0, .bool false, .int .i64 b, .slice none 0 0, .slice none 0 0]) ?_ rfl ⟨none, 0, none, 0, ?_, RdX.nil, RdB.nil, Nat.le_refl _, by decide, Nat.le_refl _, by decide, ?_, frIn_none _ _, frIn_none _ _⟩
    · simp [results, Tryz.results30, go_sem, FC] <;> rfl
    · first | rfl | (simp [frOf, frcells, bts_len]; done) | (simp [frOf, frcells, bts_len, beqF])
    · have h := HB.out
      (repeat (first | with_reducible exact h | with_reducible refine Below.drew ?_ | (with_reducible refine Below.set4 ?_ ?side _ _ _ _; case side => (first | omega | (simp; omega) | (simp; done))) | (with_reducible refine Below.setCell ?_ ?side _; case side => (first | omega | (simp; omega) | (simp; done))) | (with_reducible refine Below.alloc ?_ ?side _; case side => (first | omega | (simp; omega) | (simp; done)))))
  · go_wp2_with fail
    refine bodyPost_ret (v := .agg #[.int .i64 6, .int .i64 0, .int .i64 (b / 2 : Nat), .bool false, .int .i64 0, .slice none 0 0, .slice (some ⟨w.heap.size + 2, 0, none⟩) cs.size d]) ?_ rfl ⟨none, 0, some ⟨w.heap.size + 2, 0, none⟩, d, ?_, RdX.nil, ?_, Nat.le_refl _, by decide, by show (bts cs).length ≤ d; rw [bts_len]; exact hd1, hd2, ?_, frIn_none _ _, frIn_some (Nat.le_add_right _ _) ?_⟩
    · simp [results, Tryz.results30, go_sem, FC] <;> rfl
    · first | rfl | (simp [frOf, frcells, bts_len]; done) | (simp [frOf, frcells, bts_len, beqF])
    · have h := HR.out
      have h : Rd w3 1 (some ⟨w.heap.size + 2, 0, none⟩) (bts cs).length (u8s (bts cs)) := h
      refine RdB.asF (n := (bts cs).length) (bs := bts cs) ?_ rfl
      (repeat (first | with_reducible exact h | with_reducible refine Rd.drew ?_ | (with_reducible refine Rd.farc ?_ ?side _; case side => (first | omega | (simp; omega) | (simp; done))) | with_reducible refine Rd.alloc ?_ _))
    · have h := HB.out
      (repeat (first | with_reducible exact h | with_reducible refine Below.drew ?_ | (with_reducible refine Below.set4 ?_ ?side _ _ _ _; case side => (first | omega | (simp; omega) | (simp; done))) | (with_reducible refine Below.setCell ?_ ?side _; case side => (first | omega | (simp; omega) | (simp; done))) | (with_reducible refine Below.alloc ?_ ?side _; case side => (first | omega | (simp; omega) | (simp; done)))))
    · first | with_reducible exact hg | (simp; omega)
  · go_wp2_with fail
    refine bodyPost_ret (v := .agg #[.int .i64 7, .int .i64 0, .int .i64 0, .bool false, .int .i64 0, .slice none 0 0, .slice (some ⟨w.heap.size + 2, 0, none⟩) cs.size d]) ?_ rfl ⟨none, 0, some ⟨w.heap.size + 2, 0, none⟩, d, ?_, RdX.nil, ?_, Nat.le_refl _, by decide, by show (bts cs).length ≤ d; rw [bts_len]; exact hd1, hd2, ?_, frIn_none _ _, frIn_some (Nat.le_add_right _ _) ?_⟩
    · simp [results, Tryz.results30, go_sem, FC] <;> rfl
    · first | rfl | (simp [frOf, frcells, bts_len]; done) | (simp [frOf, frcells, bts_len, beqF])
    · have h := HR.out
      have h : Rd w3 1 (some ⟨w.heap.size + 2, 0, none⟩) (bts cs).length (u8s (bts cs)) := h
      refine RdB.asF (n := (bts cs).length) (bs := bts cs) ?_ rfl
      (repeat (first | with_reducible exact h | with_reducible refine Rd.drew ?_ | (with_reducible refine Rd.farc ?_ ?side _; case side => (first | omega | (simp; omega) | (simp; done))) | with_reducible refine Rd.alloc ?_ _))
    · have h := HB.out
      (repeat (first | with_reducible exact h | with_reducible refine Below.drew ?_ | (with_reducible refine Below.set4 ?_ ?side _ _ _ _; case side => (first | omega | (simp; omega) | (simp; done))) | (with_reducible refine Below.setCell ?_ ?side _; case side => (first | omega | (simp; omega) | (simp; done))) | (with_reducible refine Below.alloc ?_ ?side _; case side => (first | omega | (simp; omega) | (simp; done)))))
    · first | with_reducible exact hg | (simp; omega)
  · go_wp2_with fail
    refine (picked_at r.a 2 q2 o1.1 o1.2 (by decide) (by decide) H2 _).mono ?_
    rintro e w' ⟨rfl, rfl⟩
    go_wp2_with fail
    refine bodyPost_ret (v := .agg #[.int .i64 8, .int .i64 a, .int .i64 (b / 2 : Nat), .bool ((q2 : Int) == 0), .int .i64 0, .slice none 0 0, .slice (some ⟨w.heap.size + 2, 0, none⟩) cs.size d]) ?_ rfl ⟨none, 0, some ⟨w.heap.size + 2, 0, none⟩, d, ?_, RdX.nil, ?_, Nat.le_refl _, by decide, by show (bts cs).length ≤ d; rw [bts_len]; exact hd1, hd2, ?_, frIn_none _ _, frIn_some (Nat.le_add_right _ _) ?_⟩
    · simp [results, Tryz.results30, go_sem, FC] <;> rfl
    · first | rfl | (simp [frOf, frcells, bts_len]; done) | (simp [frOf, frcells, bts_len, beqF])
    · have h := HR.out
      have h : Rd w3 1 (some ⟨w.heap.size + 2, 0, none⟩) (bts cs).length (u8s (bts cs)) := h
      refine RdB.asF (n := (bts cs).length) (bs := bts cs) ?_ rfl
      (repeat (first | with_reducible exact h | with_reducible refine Rd.drew ?_ | (with_reducible refine Rd.farc ?_ ?side _; case side => (first | omega | (simp; omega) | (simp; done))) | with_reducible refine Rd.alloc ?_ _))
    · have h := HB.out
      (repeat (first | with_reducible exact h | with_reducible refine Below.drew ?_ | (with_reducible refine Below.set4 ?_ ?side _ _ _ _; case side => (first | omega | (simp; omega) | (simp; done))) | (with_reducible refine Below.setCell ?_ ?side _; case side => (first | omega | (simp; omega) | (simp; done))) | (with_reducible refine Below.alloc ?_ ?side _; case side => (first | omega | (simp; omega) | (simp; done)))))
    · first | with_reducible exact hg | (simp; omega)
  · go_wp2_with fail
    refine (picked_at r.a 2 q2 o1.1 o1.2 (by decide) (by decide) H2 _).mono ?_
    rintro e w' ⟨rfl, rfl⟩
    go_wp2_with fail
    refine bodyPost_ret (v := .agg #[.int .i64 8, .int .i64 a, .int .i64 (b / 2 : Nat), .bool ((q2 : Int) == 0), .int .i64 0, .slice none 0 0, .slice (some ⟨w.heap.size + 2, 0, none⟩) cs.size d]) ?_ rfl ⟨none, 0, some ⟨w.heap.size + 2, 0, none⟩, d, ?_, RdX.nil, ?_, Nat.le_refl _, by decide, by show (bts cs).length ≤ d; rw [bts_len]; exact hd1, hd2, ?_, frIn_none _ _, frIn_some (Nat.le_add_right _ _) ?_⟩
    · simp [results, Tryz.results30, go_sem, FC] <;> rfl
    · first | rfl | (simp [frOf, frcells, bts_len]; done) | (simp [frOf, frcells, bts_len, beqF])
    · have h := HR.out
      have h : Rd w3 1 (some ⟨w.heap.size + 2, 0, none⟩) (bts cs).length (u8s (bts cs)) := h
      refine RdB.asF (n := (bts cs).length) (bs := bts cs) ?_ rfl
      (repeat (first | with_reducible exact h | with_reducible refine Rd.drew ?_ | (with_reducible refine Rd.farc ?_ ?side _; case side => (first | omega | (simp; omega) | (simp; done))) | with_reducible refine Rd.alloc ?_ _))
    · have h := HB.out
      (repeat (first | with_reducible exact h | with_reducible refine Below.drew ?_ | (with_reducible refine Below.set4 ?_ ?side _ _ _ _; case side => (first | omega | (simp; omega) | (simp; done))) | (with_reducible refine Below.setCell ?_ ?side _; case side => (first | omega | (simp; omega) | (simp; done))) | (with_reducible refine Below.alloc ?_ ?side _; case side => (first | omega | (simp; omega) | (simp; done)))))
    · first | with_reducible exact hg | (simp; omega)
  · go_wp2_with fail
    refine bodyPost_ret (v := .agg #[.int .i64 16, .int .i64 0, .int .i64 a, .bool false, .int .i64 0, .slice none 0 0, .slice none 0 0]) ?_ rfl ⟨none, 0, none, 0, ?_, RdX.nil, RdB.nil, Nat.le_refl _, by decide, Nat.le_refl _, by decide, ?_, frIn_none _ _, frIn_none _ _⟩
    · simp [results, Tryz.results30, go_sem, FC] <;> rfl
    · first | rfl | (simp [frOf, frcells, bts_len]; done) | (simp [frOf, frcells, bts_len, beqF])
    · have h := HB.out
      (repeat (first | with_reducible exact h | with_reducible refine Below.drew ?_ | (with_reducible refine Below.set4 ?_ ?side _ _ _ _; case side => (first | omega | (simp; omega) | (simp; done))) | (with_reducible refine Below.setCell ?_ ?side _; case side => (first | omega | (simp; omega) | (simp; done))) | (with_reducible refine Below.alloc ?_ ?side _; case side => (first | omega | (simp; omega) | (simp; done)))))
  · go_wp2_with fail
    refine bodyPost_ret (v := .agg #[.int .i64 17, .int .i64 a, .int .i64 b, .bool false, .int .i64 0, .slice none 0 0, .slice none 0 0]) ?_ rfl ⟨none, 0, none, 0, ?_, RdX.nil, RdB.nil, Nat.le_refl _, by decide, Nat.le_refl _, by decide, ?_, frIn_none _ _, frIn_none _ _⟩
    · simp [results, Tryz.results30, go_sem, FC] <;> rfl
    · first | rfl | (simp [frOf, frcells, bts_len]; done) | (simp [frOf, frcells, bts_len, beqF])
    · have h := HB.out
      (repeat (first | with_reducible exact h | with_reducible refine Below.drew ?_ | (with_reducible refine Below.set4 ?_ ?side _ _ _ _; case side => (first | omega | (simp; omega) | (simp; done))) | (with_reducible refine Below.setCell ?_ ?side _; case side => (first | omega | (simp; omega) | (simp; done))) | (with_reducible refine Below.alloc ?_ ?side _; case side => (first | omega | (simp; omega) | (simp; done)))))
  · go_wp2_with fail
    refine bodyPost_ret (v := .agg #[.int .i64 18, .int .i64 0, .int .i64 a, .bool false, .int .i64 0, .slice none 0 0, .slice none 0 0]) ?_ rfl ⟨none, 0, none, 0, ?_, RdX.nil, RdB.nil, Nat.le_refl _, by decide, Nat.le_refl _, by decide, ?_, frIn_none _ _, frIn_none _ _⟩
    · simp [results, Tryz.results30, go_sem, FC] <;> rfl
    · first | rfl | (simp [frOf, frcells, bts_len]; done) | (simp [frOf, frcells, bts_len, beqF])
    · have h := HB.out
      (repeat (first | with_reducible exact h | with_reducible refine Below.drew ?_ | (with_reducible refine Below.set4 ?_ ?side _ _ _ _; case side => (first | omega | (simp; omega) | (simp; done))) | (with_reducible refine Below.setCell ?_ ?side _; case side => (first | omega | (simp; omega) | (simp; done))) | (with_reducible refine Below.alloc ?_ ?side _; case side => (first | omega | (simp; omega) | (simp; done)))))
  · go_wp2_with fail
    refine bodyPost_ret (v := .agg #[.int .i64 26, .int .i64 0, .int .i64 0, .bool false, .int .i64 a, .slice none 0 0, .slice none 0 0]) ?_ rfl ⟨none, 0, none, 0, ?_, RdX.nil, RdB.nil, Nat.le_refl _, by decide, Nat.le_refl _, by decide, ?_, frIn_none _ _, frIn_none _ _⟩
    · simp [results, Tryz.results30, go_sem, FC] <;> rfl
    · first | rfl | (simp [frOf, frcells, bts_len]; done) | (simp [frOf, frcells, bts_len, beqF])
    · have h := HB.out
      (repeat (first | with_reducible exact h | with_reducible refine Below.drew ?_ | (with_reducible refine Below.set4 ?_ ?side _ _ _ _; case side => (first | omega | (simp; omega) | (simp; done))) | (with_reducible refine Below.setCell ?_ ?side _; case side => (first | omega | (simp; omega) | (simp; done))) | (with_reducible refine Below.alloc ?_ ?side _; case side => (first | omega | (simp; omega) | (simp; done)))))
  · go_wp2_with fail
    refine bodyPost_ret (v := .agg #[.int .i64 28, .int .i64 0, .int .i64 0, .bool false, .int .i64 a, .slice none 0 0, .slice none 0 0]) ?_ rfl ⟨none, 0, none, 0, ?_, RdX.nil, RdB.nil, Nat.le_refl _, by decide, Nat.le_refl _, by decide, ?_, frIn_none _ _, frIn_none _ _⟩
    · simp [results, Tryz.results30, go_sem, FC] <;> rfl
    · first | rfl | (simp [frOf, frcells, bts_len]; done) | (simp [frOf, frcells, bts_len, beqF])
    · have h := HB.out
      (repeat (first | with_reducible exact h | with_reducible refine Below.drew ?_ | (with_reducible refine Below.set4 ?_ ?side _ _ _ _; case side => (first | omega | (simp; omega) | (simp; done))) | (with_reducible refine Below.setCell ?_ ?side _; case side => (first | omega | (simp; omega) | (simp; done))) | (with_reducible refine Below.alloc ?_ ?side _; case side => (first | omega | (simp; omega) | (simp; done)))))
  · rcases (show q2 = 0 ∨ q2 = 1 by omega) with rfl | rfl
    · go_wp2_with fail
      refine (picked_at r.a 2 _ o1.1 o1.2 (by decide) (by decide) H2 _).mono ?_
      rintro e w' ⟨rfl, rfl⟩
      go_wp2_with fail
      refine bodyPost_ret (v := .agg #[.int .i64 0, .int .i64 0, .int .i64 0, .bool false, .int .i64 0, .slice none 0 0, .slice none 0 0]) ?_ rfl ⟨none, 0, none, 0, ?_, RdX.nil, RdB.nil, Nat.le_refl _, by decide, Nat.le_refl _, by decide, ?_, frIn_none _ _, frIn_none _ _⟩
      · simp [results, Tryz.results30, go_sem, FC] <;> rfl
      · first | rfl | simp [frOf, frcells, bts_len]
      · have h := HB.out
        (repeat (first | with_reducible exact h | with_reducible refine Below.drew ?_ | (with_reducible refine Below.set4 ?_ ?side _ _ _ _; case side => (first | omega | (simp; omega) | (simp; done))) | (with_reducible refine Below.setCell ?_ ?side _; case side => (first | omega | (simp; omega) | (simp; done))) | (with_reducible refine Below.alloc ?_ ?side _; case side => (first | omega | (simp; omega) | (simp; done)))))
    · go_wp2_with fail
      refine (picked_at r.a 2 _ o1.1 o1.2 (by decide) (by decide) H2 _).mono ?_
      rintro e w' ⟨rfl, rfl⟩
      go_wp2_with fail
      refine bodyPost_ret (v := .agg #[.int .i64 30, .int .i64 0, .int .i64 0, .bool false, .int .i64 0, .slice none 0 0, .slice none 0 0]) ?_ rfl ⟨none, 0, none, 0, ?_, RdX.nil, RdB.nil, Nat.le_refl _, by decide, Nat.le_refl _, by decide, ?_, frIn_none _ _, frIn_none _ _⟩
      · simp [results, Tryz.results30, go_sem, FC] <;> rfl
      · first | rfl | simp [frOf, frcells, bts_len]
      · have h := HB.out
        (repeat (first | with_reducible exact h | with_reducible refine Below.drew ?_ | (with_reducible refine Below.set4 ?_ ?side _ _ _ _; case side => (first | omega | (simp; omega) | (simp; done))) | (with_reducible refine Below.setCell ?_ ?side _; case side => (first | omega | (simp; omega) | (simp; done))) | (with_reducible refine Below.alloc ?_ ?side _; case side => (first | omega | (simp; omega) | (simp; done)))))
theorem frameOf_any (r : RawD) (hr : RawOk r) : ∃ f : FrD, FrOk f ∧ ∀ w, Calls Tryz.prog 30 #[rawV r] w (FrOut w f) := by
  obtain ⟨f, h, hc⟩ := frameOf_small r hr
  exact ⟨f, h.1, hc⟩
end Go.Proofs.YtbcagdjfegobnaaGreat
/- connFrame of a raw thing: a frame that may be. -/
namespace Go.Proofs.YtbcagdjfegobnaaGreat
open Go.ChangeShapes Go.WideShapes Go.ChangeAt Go.RowKit
set_option linter.unusedVariables false

theorem FrOk.less {f : FrD} (ok : FrOk f) {k : Nat} (hk : f.kind = k) (i o : Nat) (hi : i ≤ f.id) (ho : o ≤ f.off) : FrOk ⟨k, i, o, f.fin, f.code, f.rngs, f.data⟩ := by
  subst hk
  exact ⟨ok.kind, ok.len, ok.many, by have := ok.id; simp only; omega, fun h => by have := ok.noId h; simp only; omega, by have := ok.off; simp only; omega, fun h => by have := ok.noOff h; simp only; omega, ok.code, ok.noCode, fun h => by have := ok.far h; simp only; omega, ok.noData, ok.noFin, ok.ack, ok.rngs⟩
theorem FrOk.ack2 {f : FrD} (ok : FrOk f) (hk : f.kind = 2) (i : Nat) (hi : i ≤ f.id) (lo ex : Nat) (hlo : lo < 3) (hex : ex < 3) : FrOk ⟨2, i, f.off, f.fin, f.code, [((lo : Nat), ((lo + ex : Nat) : Int))], f.data⟩ := by
  have h := ok.less hk i f.off hi (Nat.le_refl _)
  exact ⟨h.kind, h.len, by simp, h.id, h.noId, h.off, h.noOff, h.code, h.noCode, h.far, h.noData, h.noFin, by simp, by simp [goodDown]; omega⟩
theorem Blk.rd1r {w : World} {g : Nat} {E : TypeId} {x y : Int} (h : Blk w g E #[.int .i64 x, .int .i64 y]) : RdX rcells 2 w (some ⟨g, 0, none⟩) [(x, y)] :=
  ⟨rfl, fun _ => ⟨g, 0, rfl, fun j u hu => by rw [h.cell, Nat.zero_add]; simpa [rcells] using hu⟩⟩
theorem modc (n m : Nat) : Hid (((n : Nat) : Int) % (m : Nat) = ((n % m : Nat) : Int)) := by unfold Hid; omega
theorem FrIn.step {w w1 w' : World} {A : Option Addr} (h : FrIn w1 w' A) (hs : w.heap.size ≤ w1.heap.size) : FrIn w w' A := fun a ha => ⟨Nat.le_trans hs (h a ha).1, (h a ha).2⟩
theorem FrIn.on {w w1 w' : World} {A : Option Addr} (h : FrIn w w1 A) (hs : w1.heap.size ≤ w'.heap.size) : FrIn w w' A := fun a ha => ⟨(h a ha).1, Nat.lt_of_lt_of_le (h a ha).2 hs⟩
set_option maxRecDepth 100000 in
set_option maxHeartbeats 4000000 in
theorem connFrame_8 (r : RawD) (hr : RawOk r) (f : FrD) (ok : FrOk f) (hkd : f.kind = 8) (hf : ∀ w, Calls Tryz.prog 30 #[rawV r] w (FrOut w f)) (w : World) :
    Calls Tryz.prog 26 #[rawV r] w (FrOut w (⟨8, f.id % 6, f.off % 320, f.fin, f.code, f.rngs, f.data⟩ : FrD)) := by
  have HOK2 := Lib.hid (show FrOk (⟨8, f.id % 6, f.off % 320, f.fin, f.code, f.rngs, f.data⟩ : FrD) from FrOk.less ok hkd _ _ (Nat.mod_le _ _) (Nat.mod_le _ _))
  obtain ⟨⟨_, _⟩, ⟨a0, a1⟩, ⟨b0, b1⟩, _⟩ := hr
  skip
  have CF := Lib.hid hf
  unfold rawV at CF ⊢
  have HB0 := Lib.hid (Below.refl w.heap.size w)
  have hid := ok.id
  have hoff := ok.off
  clear hf
  go_enter Tryz.func26, Tryz.ntmps26
  refine wp_seq_k ?_
  intro KC1 hKC1
  refine wp_regionW ?_
  refine wnew (some 1) 59 #[.int .i64 r.kind, .int .i64 r.a, .int .i64 r.b, .string r.text] (fun q => .pointer (some ⟨q, 0, none⟩)) (by kernel_rfl) (by kernel_rfl) (by kernel_rfl) ?_
  intro wz3 g2 hg2 hBg2 hbg2
  have hlg2 : w.heap.size ≤ g2 := by rw [← hg2]; exact HB0.out.size
  have HF4 := Lib.hid (HB0.out.trans (hbg2.mono HB0.out.size))
  have HKg2 := Lib.hid hBg2
  clear hBg2 hbg2
  refine wnew (some 2) 68 #[.int .i64 0, .int .i64 0, .int .i64 0, .bool false, .int .i64 0, .slice none 0 0, .slice none 0 0] (fun q => .pointer (some ⟨q, 0, none⟩)) (by kernel_rfl) (by kernel_rfl) (by kernel_rfl) ?_
  intro wz6 g5 hg5 hBg5 hbg5
  have hlg5 : w.heap.size ≤ g5 := by rw [← hg5]; exact HF4.out.size
  have HK7 := Lib.hid (HKg2.out.carry hbg5)
  clear HKg2
  have HF8 := Lib.hid (HF4.out.trans (hbg5.mono HF4.out.size))
  clear HF4
  have HKg5 := Lib.hid hBg5
  clear hBg5 hbg5
  refine wnil (hKC1 _ _ (?_))
  clear hKC1
  refine wp_seq_k ?_
  intro KC9 hKC9
  refine wp_regionW ?_
  refine wloadR (some 5) (by kernel_rfl) (by kernel_rfl) 59 (.tmp 1) (by kernel_rfl) g2 0 (by kernel_rfl) #[.int .i64 r.kind, .int .i64 r.a, .int .i64 r.b, .string r.text] _ Tryz.underlying59 rfl (by kernel_rfl) HK7.out.whole ?_
  have hlt_g2 := HK7.out.lt
  have hlt_g5 := HKg5.out.lt
  have hszw := HF8.out.size
  refine wcall (some 6) 30 #[.agg #[.int .i64 r.kind, .int .i64 r.a, .int .i64 r.b, .string r.text]] (by kernel_rfl) (by kernel_rfl) (by kernel_rfl) ?_
  refine (CF.out _).mono ?_
  rintro e wz10 ⟨A, c, B, d, rfl, hA, hB, hc, hcm, hd, hdm, hbc, hiA, hiB⟩
  have HA := Lib.hid hA
  have HBt := Lib.hid hB
  have HIA := Lib.hid hiA
  have HIB := Lib.hid hiB
  have HFA := Lib.hid (hiA.step hszw)
  have HFB := Lib.hid (hiB.step hszw)
  clear hA hB hiA hiB
  unfold frcells
  rw [hkd]
  refine ⟨_, rfl, ?_⟩
  have HK11 := Lib.hid (HK7.out.carry hbc)
  clear HK7
  have HK12 := Lib.hid (HKg5.out.carry hbc)
  clear HKg5
  have HF13 := Lib.hid (HF8.out.trans (hbc.mono HF8.out.size))
  clear HF8
  clear hbc
  refine wnew (some 3) 68 #[.int .i64 0, .int .i64 0, .int .i64 0, .bool false, .int .i64 0, .slice none 0 0, .slice none 0 0] (fun q => .pointer (some ⟨q, 0, none⟩)) (by kernel_rfl) (by kernel_rfl) (by kernel_rfl) ?_
  intro wz15 g14 hg14 hBg14 hbg14
  have hneg5g14 : g5 ≠ g14 := by have := HK12.out.lt; omega
  have hlg14 : w.heap.size ≤ g14 := by rw [← hg14]; exact HF13.out.size
  have HK16 := Lib.hid (HK11.out.carry hbg14)
  clear HK11
  have HK17 := Lib.hid (HK12.out.carry hbg14)
  clear HK12
  have HF18 := Lib.hid (HF13.out.trans (hbg14.mono HF13.out.size))
  clear HF13
  have HF19 := Lib.hid (RdX.below HA.out hbg14)
  have HF20 := Lib.hid (HBt.out.below hbg14)
  have HF21 := Lib.hid (HFA.out.on hbg14.size)
  clear HFA
  have HF22 := Lib.hid (HFB.out.on hbg14.size)
  clear HFB
  have HKg14 := Lib.hid hBg14
  clear hBg14 hbg14
  refine wstoreP (by kernel_rfl) (by kernel_rfl) 68 (.tmp 3) (.tmp 6) (by kernel_rfl) g14 0 (by kernel_rfl) #[.int .i64 (8 : Nat), .int .i64 (f.id : Nat), .int .i64 (f.off : Nat), .bool f.fin, .int .i64 (f.code : Nat), .slice A f.rngs.length c, .slice B f.data.length d] (by kernel_rfl) 68 #[.int .i64 0, .int .i64 0, .int .i64 0, .bool false, .int .i64 0, .slice none 0 0, .slice none 0 0] HKg14.out (by kernel_rfl) (Nat.le_of_eq (by kernel_rfl)) (all_one (by kernel_rfl)) #[.int .i64 (8 : Nat), .int .i64 (f.id : Nat), .int .i64 (f.off : Nat), .bool f.fin, .int .i64 (f.code : Nat), .slice A f.rngs.length c, .slice B f.data.length d] (splice_all _ _ (by kernel_rfl)) ?_
  intro wz23 hBwz23 hwwz23
  have HK24 := Lib.hid (HK16.out.wr hwwz23 (Blk.neq HK16.out HKg14.out (by decide)))
  clear HK16
  have HK25 := Lib.hid (HK17.out.wr hwwz23 hneg5g14)
  clear HK17
  have HF26 := Lib.hid (hwwz23.trans_below HF18.out hlg14)
  clear HF18
  have HF27 := Lib.hid (Rd.wr HF19.out hwwz23 (fun a ha => by have h1 := (HIA.out a ha).1; have h2 := (HIA.out a ha).2; omega))
  clear HF19
  have HF28 := Lib.hid (Rd.wr HF20.out hwwz23 (fun a ha => by have h1 := (HIB.out a ha).1; have h2 := (HIB.out a ha).2; omega))
  clear HF20
  have HF29 := Lib.hid (HF21.out.on (Nat.le_of_eq hwwz23.size.symm))
  clear HF21
  have HF30 := Lib.hid (HF22.out.on (Nat.le_of_eq hwwz23.size.symm))
  clear HF22
  have HK31 := Lib.hid hBwz23
  clear HKg14
  refine wnil (hKC9 _ _ (?_))
  clear hKC9
  refine wp_seq_k ?_
  intro KC32 hKC32
  refine wp_regionW ?_
  refine wval (some 7) (.pointer (some ⟨g14, 1, none⟩)) wz23 (by kernel_rfl) (by kernel_rfl) (by kernel_rfl) ?_
  refine wload (some 8) (.int .i64 (f.id : Nat)) 3 (.tmp 7) g14 1 _ (by kernel_rfl) (by kernel_rfl) (by kernel_rfl) (by kernel_rfl) Tryz.underlying3 rfl (by rw [HK31.out.cell]; kernel_rfl) ?_
  refine wcall (some 9) 15 #[.int .i64 (f.id : Nat), .int .i64 6] (by kernel_rfl) (by kernel_rfl) (by kernel_rfl) ?_
  refine (picked_at _ 6 _ (by omega) (by omega) (by decide) (by decide) (modc f.id 6) _).mono ?_
  rintro e wz33 ⟨rfl, rfl⟩
  refine ⟨_, rfl, ?_⟩
  refine wval (some 10) (.pointer (some ⟨g14, 1, none⟩)) wz23 (by kernel_rfl) (by kernel_rfl) (by kernel_rfl) ?_
  refine wstore1 (by kernel_rfl) (by kernel_rfl) 3 (.tmp 10) (.tmp 9) (by kernel_rfl) g14 1 (by kernel_rfl) (.int .i64 ((f.id % 6 : Nat) : Int)) (by kernel_rfl) (by kernel_rfl) (by kernel_rfl) 68 #[.int .i64 (8 : Nat), .int .i64 (f.id : Nat), .int .i64 (f.off : Nat), .bool f.fin, .int .i64 (f.code : Nat), .slice A f.rngs.length c, .slice B f.data.length d] HK31.out (by kernel_rfl) (Nat.lt_of_lt_of_eq (show 1 < 7 by decide) (by kernel_rfl)) #[.int .i64 (8 : Nat), .int .i64 ((f.id % 6 : Nat) : Int), .int .i64 (f.off : Nat), .bool f.fin, .int .i64 (f.code : Nat), .slice A f.rngs.length c, .slice B f.data.length d] (by kernel_rfl) ?_
  intro wz34 hBwz34 hwwz34
  have HK35 := Lib.hid (HK24.out.wr hwwz34 (Blk.neq HK24.out HK31.out (by decide)))
  clear HK24
  have HK36 := Lib.hid (HK25.out.wr hwwz34 hneg5g14)
  clear HK25
  have HF37 := Lib.hid (hwwz34.trans_below HF26.out hlg14)
  clear HF26
  have HF38 := Lib.hid (Rd.wr HF27.out hwwz34 (fun a ha => by have h1 := (HIA.out a ha).1; have h2 := (HIA.out a ha).2; omega))
  clear HF27
  have HF39 := Lib.hid (Rd.wr HF28.out hwwz34 (fun a ha => by have h1 := (HIB.out a ha).1; have h2 := (HIB.out a ha).2; omega))
  clear HF28
  have HF40 := Lib.hid (HF29.out.on (Nat.le_of_eq hwwz34.size.symm))
  clear HF29
  have HF41 := Lib.hid (HF30.out.on (Nat.le_of_eq hwwz34.size.symm))
  clear HF30
  have HK42 := Lib.hid hBwz34
  clear HK31
  refine wnil (hKC32 _ _ (?_))
  clear hKC32
  refine wp_seq_k ?_
  intro KC43 hKC43
  refine wp_seq_k ?_
  intro KC44 hKC44
  refine wp_regionW ?_
  refine wval (some 11) (.pointer (some ⟨g14, 0, none⟩)) wz34 (by kernel_rfl) (by kernel_rfl) (by kernel_rfl) ?_
  refine wload (some 12) (.int .i64 (8 : Nat)) 3 (.tmp 11) g14 0 _ (by kernel_rfl) (by kernel_rfl) (by kernel_rfl) (by kernel_rfl) Tryz.underlying3 rfl (by rw [HK42.out.cell]; kernel_rfl) ?_
  refine wnil (hKC44 _ _ (?_))
  clear hKC44
  refine wp_block ?_
  refine wp_seq_k ?_
  intro KC45 hKC45
  refine wp_seq_k ?_
  intro KC46 hKC46
  refine wp_regionW ?_
  refine wval (some 14) (.bool true) wz34 (by kernel_rfl) (by kernel_rfl) (by kernel_rfl) ?_
  refine wval (some 13) (.bool true) wz34 (by kernel_rfl) (by kernel_rfl) (by kernel_rfl) ?_
  refine wnil (hKC46 _ _ (?_))
  clear hKC46
  refine wp_cond_true (by kernel_rfl) ?_
  refine wp_skip (hKC45 _ _ (?_))
  clear hKC45
  refine wp_cond_true (by kernel_rfl) ?_
  refine wp_regionW ?_
  refine wval (some 18) (.pointer (some ⟨g14, 2, none⟩)) wz34 (by kernel_rfl) (by kernel_rfl) (by kernel_rfl) ?_
  refine wload (some 19) (.int .i64 (f.off : Nat)) 3 (.tmp 18) g14 2 _ (by kernel_rfl) (by kernel_rfl) (by kernel_rfl) (by kernel_rfl) Tryz.underlying3 rfl (by rw [HK42.out.cell]; kernel_rfl) ?_
  refine wcall (some 20) 15 #[.int .i64 (f.off : Nat), .int .i64 320] (by kernel_rfl) (by kernel_rfl) (by kernel_rfl) ?_
  refine (picked_at _ 320 _ (by omega) (by omega) (by decide) (by decide) (modc f.off 320) _).mono ?_
  rintro e wz47 ⟨rfl, rfl⟩
  refine ⟨_, rfl, ?_⟩
  refine wval (some 21) (.pointer (some ⟨g14, 2, none⟩)) wz34 (by kernel_rfl) (by kernel_rfl) (by kernel_rfl) ?_
  refine wstore1 (by kernel_rfl) (by kernel_rfl) 3 (.tmp 21) (.tmp 20) (by kernel_rfl) g14 2 (by kernel_rfl) (.int .i64 ((f.off % 320 : Nat) : Int)) (by kernel_rfl) (by kernel_rfl) (by kernel_rfl) 68 #[.int .i64 (8 : Nat), .int .i64 ((f.id % 6 : Nat) : Int), .int .i64 (f.off : Nat), .bool f.fin, .int .i64 (f.code : Nat), .slice A f.rngs.length c, .slice B f.data.length d] HK42.out (by kernel_rfl) (Nat.lt_of_lt_of_eq (show 2 < 7 by decide) (by kernel_rfl)) #[.int .i64 (8 : Nat), .int .i64 ((f.id % 6 : Nat) : Int), .int .i64 ((f.off % 320 : Nat) : Int), .bool f.fin, .int .i64 (f.code : Nat), .slice A f.rngs.length c, .slice B f.data.length d] (by kernel_rfl) ?_
  intro wz48 hBwz48 hwwz48
  have HK49 := Lib.hid (HK35.out.wr hwwz48 (Blk.neq HK35.out HK42.out (by decide)))
  clear HK35
  have HK50 := Lib.hid (HK36.out.wr hwwz48 hneg5g14)
  clear HK36
  have HF51 := Lib.hid (hwwz48.trans_below HF37.out hlg14)
  clear HF37
  have HF52 := Lib.hid (Rd.wr HF38.out hwwz48 (fun a ha => by have h1 := (HIA.out a ha).1; have h2 := (HIA.out a ha).2; omega))
  clear HF38
  have HF53 := Lib.hid (Rd.wr HF39.out hwwz48 (fun a ha => by have h1 := (HIB.out a ha).1; have h2 := (HIB.out a ha).2; omega))
  clear HF39
  have HF54 := Lib.hid (HF40.out.on (Nat.le_of_eq hwwz48.size.symm))
  clear HF40
  have HF55 := Lib.hid (HF41.out.on (Nat.le_of_eq hwwz48.size.symm))
  clear HF41
  have HK56 := Lib.hid hBwz48
  clear HK42
  refine wnil (hKC43 _ _ (?_))
  clear hKC43
  refine wp_seq_k ?_
  intro KC57 hKC57
  refine wp_seq_k ?_
  intro KC58 hKC58
  refine wp_regionW ?_
  refine wloadR (some 43) (by kernel_rfl) (by kernel_rfl) 68 (.tmp 3) (by kernel_rfl) g14 0 (by kernel_rfl) #[.int .i64 (8 : Nat), .int .i64 ((f.id % 6 : Nat) : Int), .int .i64 ((f.off % 320 : Nat) : Int), .bool f.fin, .int .i64 (f.code : Nat), .slice A f.rngs.length c, .slice B f.data.length d] _ Tryz.underlying68 rfl (by kernel_rfl) HK56.out.whole ?_
  refine wcall (some 44) 57 #[.agg #[.int .i64 (8 : Nat), .int .i64 ((f.id % 6 : Nat) : Int), .int .i64 ((f.off % 320 : Nat) : Int), .bool f.fin, .int .i64 (f.code : Nat), .slice A f.rngs.length c, .slice B f.data.length d]] (by kernel_rfl) (by kernel_rfl) (by kernel_rfl) ?_
  refine (fCheck_ok (⟨8, f.id % 6, f.off % 320, f.fin, f.code, f.rngs, f.data⟩ : FrD) HOK2.out A c B d _ HF52.out hc hcm).mono ?_
  rintro e wz59 ⟨rfl, hbc⟩
  refine ⟨_, rfl, ?_⟩
  have HK60 := Lib.hid (HK49.out.carry hbc)
  clear HK49
  have HK61 := Lib.hid (HK50.out.carry hbc)
  clear HK50
  have HK62 := Lib.hid (HK56.out.carry hbc)
  clear HK56
  have HF63 := Lib.hid (HF51.out.trans (hbc.mono HF51.out.size))
  clear HF51
  have HF64 := Lib.hid (RdX.below HF52.out hbc)
  clear HF52
  have HF65 := Lib.hid (HF53.out.below hbc)
  clear HF53
  have HF66 := Lib.hid (HF54.out.on hbc.size)
  clear HF54
  have HF67 := Lib.hid (HF55.out.on hbc.size)
  clear HF55
  clear hbc
  refine wval (some 4) (.int .i64 0) wz59 (by kernel_rfl) (by kernel_rfl) (by kernel_rfl) ?_
  refine wnil (hKC58 _ _ (?_))
  clear hKC58
  refine wp_seq_k ?_
  intro KC68 hKC68
  refine wp_regionW ?_
  refine wval (some 45) (.int .i64 0) wz59 (by kernel_rfl) (by kernel_rfl) (by kernel_rfl) ?_
  refine wval (some 46) (.bool false) wz59 (by kernel_rfl) (by kernel_rfl) (by kernel_rfl) ?_
  refine wnil (hKC68 _ _ (?_))
  clear hKC68
  refine wp_cond_false (by kernel_rfl) ?_
  refine wp_skip (hKC57 _ _ (?_))
  clear hKC57
  refine wp_seq_k ?_
  intro KC69 hKC69
  refine wp_regionW ?_
  refine wloadR (some 48) (by kernel_rfl) (by kernel_rfl) 68 (.tmp 3) (by kernel_rfl) g14 0 (by kernel_rfl) #[.int .i64 (8 : Nat), .int .i64 ((f.id % 6 : Nat) : Int), .int .i64 ((f.off % 320 : Nat) : Int), .bool f.fin, .int .i64 (f.code : Nat), .slice A f.rngs.length c, .slice B f.data.length d] _ Tryz.underlying68 rfl (by kernel_rfl) HK62.out.whole ?_
  refine wstoreP (by kernel_rfl) (by kernel_rfl) 68 (.tmp 2) (.tmp 48) (by kernel_rfl) g5 0 (by kernel_rfl) #[.int .i64 (8 : Nat), .int .i64 ((f.id % 6 : Nat) : Int), .int .i64 ((f.off % 320 : Nat) : Int), .bool f.fin, .int .i64 (f.code : Nat), .slice A f.rngs.length c, .slice B f.data.length d] (by kernel_rfl) 68 #[.int .i64 0, .int .i64 0, .int .i64 0, .bool false, .int .i64 0, .slice none 0 0, .slice none 0 0] HK61.out (by kernel_rfl) (Nat.le_of_eq (by kernel_rfl)) (all_one (by kernel_rfl)) #[.int .i64 (8 : Nat), .int .i64 ((f.id % 6 : Nat) : Int), .int .i64 ((f.off % 320 : Nat) : Int), .bool f.fin, .int .i64 (f.code : Nat), .slice A f.rngs.length c, .slice B f.data.length d] (splice_all _ _ (by kernel_rfl)) ?_
  intro wz70 hBwz70 hwwz70
  have HK71 := Lib.hid (HK60.out.wr hwwz70 (Blk.neq HK60.out HK61.out (by decide)))
  clear HK60
  have HK72 := Lib.hid (HK62.out.wr hwwz70 (Ne.symm hneg5g14))
  clear HK62
  have HF73 := Lib.hid (hwwz70.trans_below HF63.out hlg5)
  clear HF63
  have HF74 := Lib.hid (Rd.wr HF64.out hwwz70 (fun a ha => by have h1 := (HIA.out a ha).1; have h2 := (HIA.out a ha).2; omega))
  clear HF64
  have HF75 := Lib.hid (Rd.wr HF65.out hwwz70 (fun a ha => by have h1 := (HIB.out a ha).1; have h2 := (HIB.out a ha).2; omega))
  clear HF65
  have HF76 := Lib.hid (HF66.out.on (Nat.le_of_eq hwwz70.size.symm))
  clear HF66
  have HF77 := Lib.hid (HF67.out.on (Nat.le_of_eq hwwz70.size.symm))
  clear HF67
  have HK78 := Lib.hid hBwz70
  clear HK61
  refine wnil (hKC69 _ _ (?_))
  clear hKC69
  refine wp_ret ?_
  refine bodyPost_ret (results_c1 _ _ g5 _ #[.int .i64 (8 : Nat), .int .i64 ((f.id % 6 : Nat) : Int), .int .i64 ((f.off % 320 : Nat) : Int), .bool f.fin, .int .i64 (f.code : Nat), .slice A f.rngs.length c, .slice B f.data.length d] _ Tryz.results26 (by kernel_rfl) HK78.out Tryz.underlying68 rfl (by kernel_rfl)) rfl ⟨A, c, B, d, rfl, HF74.out, HF75.out, hc, hcm, hd, hdm, HF73.out, HF76.out, HF77.out⟩
set_option maxRecDepth 100000 in
set_option maxHeartbeats 4000000 in
theorem connFrame_4 (r : RawD) (hr : RawOk r) (f : FrD) (ok : FrOk f) (hkd : f.kind = 4) (hf : ∀ w, Calls Tryz.prog 30 #[rawV r] w (FrOut w f)) (w : World) :
    Calls Tryz.prog 26 #[rawV r] w (FrOut w (⟨4, f.id % 6, f.off % 320, f.fin, f.code, f.rngs, f.data⟩ : FrD)) := by
  have HOK2 := Lib.hid (show FrOk (⟨4, f.id % 6, f.off % 320, f.fin, f.code, f.rngs, f.data⟩ : FrD) from FrOk.less ok hkd _ _ (Nat.mod_le _ _) (Nat.mod_le _ _))
  obtain ⟨⟨_, _⟩, ⟨a0, a1⟩, ⟨b0, b1⟩, _⟩ := hr
  skip
  have CF := Lib.hid hf
  unfold rawV at CF ⊢
  have HB0 := Lib.hid (Below.refl w.heap.size w)
  have hid := ok.id
  have hoff := ok.off
  clear hf
  go_enter Tryz.func26, Tryz.ntmps26
  refine wp_seq_k ?_
  intro KC1 hKC1
  refine wp_regionW ?_
  refine wnew (some 1) 59 #[.int .i64 r.kind, .int .i64 r.a, .int .i64 r.b, .string r.text] (fun q => .pointer (some ⟨q, 0, none⟩)) (by kernel_rfl) (by kernel_rfl) (by kernel_rfl) ?_
  intro wz3 g2 hg2 hBg2 hbg2
  have hlg2 : w.heap.size ≤ g2 := by rw [← hg2]; exact HB0.out.size
  have HF4 := Lib.hid (HB0.out.trans (hbg2.mono HB0.out.size))
  have HKg2 := Lib.hid hBg2
  clear hBg2 hbg2
  refine wnew (some 2) 68 #[.int .i64 0, .int .i64 0, .int .i64 0, .bool false, .int .i64 0, .slice none 0 0, .slice none 0 0] (fun q => .pointer (some ⟨q, 0, none⟩)) (by kernel_rfl) (by kernel_rfl) (by kernel_rfl) ?_
  intro wz6 g5 hg5 hBg5 hbg5
  have hlg5 : w.heap.size ≤ g5 := by rw [← hg5]; exact HF4.out.size
  have HK7 := Lib.hid (HKg2.out.carry hbg5)
  clear HKg2
  have HF8 := Lib.hid (HF4.out.trans (hbg5.mono HF4.out.size))
  clear HF4
  have HKg5 := Lib.hid hBg5
  clear hBg5 hbg5
  refine wnil (hKC1 _ _ (?_))
  clear hKC1
  refine wp_seq_k ?_
  intro KC9 hKC9
  refine wp_regionW ?_
  refine wloadR (some 5) (by kernel_rfl) (by kernel_rfl) 59 (.tmp 1) (by kernel_rfl) g2 0 (by kernel_rfl) #[.int .i64 r.kind, .int .i64 r.a, .int .i64 r.b, .string r.text] _ Tryz.underlying59 rfl (by kernel_rfl) HK7.out.whole ?_
  have hlt_g2 := HK7.out.lt
  have hlt_g5 := HKg5.out.lt
  have hszw := HF8.out.size
  refine wcall (some 6) 30 #[.agg #[.int .i64 r.kind, .int .i64 r.a, .int .i64 r.b, .string r.text]] (by kernel_rfl) (by kernel_rfl) (by kernel_rfl) ?_
  refine (CF.out _).mono ?_
  rintro e wz10 ⟨A, c, B, d, rfl, hA, hB, hc, hcm, hd, hdm, hbc, hiA, hiB⟩
  have HA := Lib.hid hA
  have HBt := Lib.hid hB
  have HIA := Lib.hid hiA
  have HIB := Lib.hid hiB
  have HFA := Lib.hid (hiA.step hszw)
  have HFB := Lib.hid (hiB.step hszw)
  clear hA hB hiA hiB
  unfold frcells
  rw [hkd]
  refine ⟨_, rfl, ?_⟩
  have HK11 := Lib.hid (HK7.out.carry hbc)
  clear HK7
  have HK12 := Lib.hid (HKg5.out.carry hbc)
  clear HKg5
  have HF13 := Lib.hid (HF8.out.trans (hbc.mono HF8.out.size))
  clear HF8
  clear hbc
  refine wnew (some 3) 68 #[.int .i64 0, .int .i64 0, .int .i64 0, .bool false, .int .i64 0, .slice none 0 0, .slice none 0 0] (fun q => .pointer (some ⟨q, 0, none⟩)) (by kernel_rfl) (by kernel_rfl) (by kernel_rfl) ?_
  intro wz15 g14 hg14 hBg14 hbg14
  have hneg5g14 : g5 ≠ g14 := by have := HK12.out.lt; omega
  have hlg14 : w.heap.size ≤ g14 := by rw [← hg14]; exact HF13.out.size
  have HK16 := Lib.hid (HK11.out.carry hbg14)
  clear HK11
  have HK17 := Lib.hid (HK12.out.carry hbg14)
  clear HK12
  have HF18 := Lib.hid (HF13.out.trans (hbg14.mono HF13.out.size))
  clear HF13
  have HF19 := Lib.hid (RdX.below HA.out hbg14)
  have HF20 := Lib.hid (HBt.out.below hbg14)
  have HF21 := Lib.hid (HFA.out.on hbg14.size)
  clear HFA
  have HF22 := Lib.hid (HFB.out.on hbg14.size)
  clear HFB
  have HKg14 := Lib.hid hBg14
  clear hBg14 hbg14
  refine wstoreP (by kernel_rfl) (by kernel_rfl) 68 (.tmp 3) (.tmp 6) (by kernel_rfl) g14 0 (by kernel_rfl) #[.int .i64 (4 : Nat), .int .i64 (f.id : Nat), .int .i64 (f.off : Nat), .bool f.fin, .int .i64 (f.code : Nat), .slice A f.rngs.length c, .slice B f.data.length d] (by kernel_rfl) 68 #[.int .i64 0, .int .i64 0, .int .i64 0, .bool false, .int .i64 0, .slice none 0 0, .slice none 0 0] HKg14.out (by kernel_rfl) (Nat.le_of_eq (by kernel_rfl)) (all_one (by kernel_rfl)) #[.int .i64 (4 : Nat), .int .i64 (f.id : Nat), .int .i64 (f.off : Nat), .bool f.fin, .int .i64 (f.code : Nat), .slice A f.rngs.length c, .slice B f.data.length d] (splice_all _ _ (by kernel_rfl)) ?_
  intro wz23 hBwz23 hwwz23
  have HK24 := Lib.hid (HK16.out.wr hwwz23 (Blk.neq HK16.out HKg14.out (by decide)))
  clear HK16
  have HK25 := Lib.hid (HK17.out.wr hwwz23 hneg5g14)
  clear HK17
  have HF26 := Lib.hid (hwwz23.trans_below HF18.out hlg14)
  clear HF18
  have HF27 := Lib.hid (Rd.wr HF19.out hwwz23 (fun a ha => by have h1 := (HIA.out a ha).1; have h2 := (HIA.out a ha).2; omega))
  clear HF19
  have HF28 := Lib.hid (Rd.wr HF20.out hwwz23 (fun a ha => by have h1 := (HIB.out a ha).1; have h2 := (HIB.out a ha).2; omega))
  clear HF20
  have HF29 := Lib.hid (HF21.out.on (Nat.le_of_eq hwwz23.size.symm))
  clear HF21
  have HF30 := Lib.hid (HF22.out.on (Nat.le_of_eq hwwz23.size.symm))
  clear HF22
  have HK31 := Lib.hid hBwz23
  clear HKg14
  refine wnil (hKC9 _ _ (?_))
  clear hKC9
  refine wp_seq_k ?_
  intro KC32 hKC32
  refine wp_regionW ?_
  refine wval (some 7) (.pointer (some ⟨g14, 1, none⟩)) wz23 (by kernel_rfl) (by kernel_rfl) (by kernel_rfl) ?_
  refine wload (some 8) (.int .i64 (f.id : Nat)) 3 (.tmp 7) g14 1 _ (by kernel_rfl) (by kernel_rfl) (by kernel_rfl) (by kernel_rfl) Tryz.underlying3 rfl (by rw [HK31.out.cell]; kernel_rfl) ?_
  refine wcall (some 9) 15 #[.int .i64 (f.id : Nat), .int .i64 6] (by kernel_rfl) (by kernel_rfl) (by kernel_rfl) ?_
  refine (picked_at _ 6 _ (by omega) (by omega) (by decide) (by decide) (modc f.id 6) _).mono ?_
  rintro e wz33 ⟨rfl, rfl⟩
  refine ⟨_, rfl, ?_⟩
  refine wval (some 10) (.pointer (some ⟨g14, 1, none⟩)) wz23 (by kernel_rfl) (by kernel_rfl) (by kernel_rfl) ?_
  refine wstore1 (by kernel_rfl) (by kernel_rfl) 3 (.tmp 10) (.tmp 9) (by kernel_rfl) g14 1 (by kernel_rfl) (.int .i64 ((f.id % 6 : Nat) : Int)) (by kernel_rfl) (by kernel_rfl) (by kernel_rfl) 68 #[.int .i64 (4 : Nat), .int .i64 (f.id : Nat), .int .i64 (f.off : Nat), .bool f.fin, .int .i64 (f.code : Nat), .slice A f.rngs.length c, .slice B f.data.length d] HK31.out (by kernel_rfl) (Nat.lt_of_lt_of_eq (show 1 < 7 by decide) (by kernel_rfl)) #[.int .i64 (4 : Nat), .int .i64 ((f.id % 6 : Nat) : Int), .int .i64 (f.off : Nat), .bool f.fin, .int .i64 (f.code : Nat), .slice A f.rngs.length c, .slice B f.data.length d] (by kernel_rfl) ?_
  intro wz34 hBwz34 hwwz34
  have HK35 := Lib.hid (HK24.out.wr hwwz34 (Blk.neq HK24.out HK31.out (by decide)))
  clear HK24
  have HK36 := Lib.hid (HK25.out.wr hwwz34 hneg5g14)
  clear HK25
  have HF37 := Lib.hid (hwwz34.trans_below HF26.out hlg14)
  clear HF26
  have HF38 := Lib.hid (Rd.wr HF27.out hwwz34 (fun a ha => by have h1 := (HIA.out a ha).1; have h2 := (HIA.out a ha).2; omega))
  clear HF27
  have HF39 := Lib.hid (Rd.wr HF28.out hwwz34 (fun a ha => by have h1 := (HIB.out a ha).1; have h2 := (HIB.out a ha).2; omega))
  clear HF28
  have HF40 := Lib.hid (HF29.out.on (Nat.le_of_eq hwwz34.size.symm))
  clear HF29
  have HF41 := Lib.hid (HF30.out.on (Nat.le_of_eq hwwz34.size.symm))
  clear HF30
  have HK42 := Lib.hid hBwz34
  clear HK31
  refine wnil (hKC32 _ _ (?_))
  clear hKC32
  refine wp_seq_k ?_
  intro KC43 hKC43
  refine wp_seq_k ?_
  intro KC44 hKC44
  refine wp_regionW ?_
  refine wval (some 11) (.pointer (some ⟨g14, 0, none⟩)) wz34 (by kernel_rfl) (by kernel_rfl) (by kernel_rfl) ?_
  refine wload (some 12) (.int .i64 (4 : Nat)) 3 (.tmp 11) g14 0 _ (by kernel_rfl) (by kernel_rfl) (by kernel_rfl) (by kernel_rfl) Tryz.underlying3 rfl (by rw [HK42.out.cell]; kernel_rfl) ?_
  refine wnil (hKC44 _ _ (?_))
  clear hKC44
  refine wp_block ?_
  refine wp_seq_k ?_
  intro KC45 hKC45
  refine wp_seq_k ?_
  intro KC46 hKC46
  refine wp_regionW ?_
  refine wval (some 14) (.bool false) wz34 (by kernel_rfl) (by kernel_rfl) (by kernel_rfl) ?_
  refine wval (some 13) (.bool false) wz34 (by kernel_rfl) (by kernel_rfl) (by kernel_rfl) ?_
  refine wnil (hKC46 _ _ (?_))
  clear hKC46
  refine wp_cond_false (by kernel_rfl) ?_
  refine wp_seq_k ?_
  intro KC47 hKC47
  refine wp_regionW ?_
  refine wval (some 15) (.bool true) wz34 (by kernel_rfl) (by kernel_rfl) (by kernel_rfl) ?_
  refine wval (some 13) (.bool true) wz34 (by kernel_rfl) (by kernel_rfl) (by kernel_rfl) ?_
  refine wnil (hKC47 _ _ (?_))
  clear hKC47
  refine wp_cond_true (by kernel_rfl) ?_
  refine wp_skip (hKC45 _ _ (?_))
  clear hKC45
  refine wp_cond_true (by kernel_rfl) ?_
  refine wp_regionW ?_
  refine wval (some 18) (.pointer (some ⟨g14, 2, none⟩)) wz34 (by kernel_rfl) (by kernel_rfl) (by kernel_rfl) ?_
  refine wload (some 19) (.int .i64 (f.off : Nat)) 3 (.tmp 18) g14 2 _ (by kernel_rfl) (by kernel_rfl) (by kernel_rfl) (by kernel_rfl) Tryz.underlying3 rfl (by rw [HK42.out.cell]; kernel_rfl) ?_
  refine wcall (some 20) 15 #[.int .i64 (f.off : Nat), .int .i64 320] (by kernel_rfl) (by kernel_rfl) (by kernel_rfl) ?_
  refine (picked_at _ 320 _ (by omega) (by omega) (by decide) (by decide) (modc f.off 320) _).mono ?_
  rintro e wz48 ⟨rfl, rfl⟩
  refine ⟨_, rfl, ?_⟩
  refine wval (some 21) (.pointer (some ⟨g14, 2, none⟩)) wz34 (by kernel_rfl) (by kernel_rfl) (by kernel_rfl) ?_
  refine wstore1 (by kernel_rfl) (by kernel_rfl) 3 (.tmp 21) (.tmp 20) (by kernel_rfl) g14 2 (by kernel_rfl) (.int .i64 ((f.off % 320 : Nat) : Int)) (by kernel_rfl) (by kernel_rfl) (by kernel_rfl) 68 #[.int .i64 (4 : Nat), .int .i64 ((f.id % 6 : Nat) : Int), .int .i64 (f.off : Nat), .bool f.fin, .int .i64 (f.code : Nat), .slice A f.rngs.length c, .slice B f.data.length d] HK42.out (by kernel_rfl) (Nat.lt_of_lt_of_eq (show 2 < 7 by decide) (by kernel_rfl)) #[.int .i64 (4 : Nat), .int .i64 ((f.id % 6 : Nat) : Int), .int .i64 ((f.off % 320 : Nat) : Int), .bool f.fin, .int .i64 (f.code : Nat), .slice A f.rngs.length c, .slice B f.data.length d] (by kernel_rfl) ?_
  intro wz49 hBwz49 hwwz49
  have HK50 := Lib.hid (HK35.out.wr hwwz49 (Blk.neq HK35.out HK42.out (by decide)))
  clear HK35
  have HK51 := Lib.hid (HK36.out.wr hwwz49 hneg5g14)
  clear HK36
  have HF52 := Lib.hid (hwwz49.trans_below HF37.out hlg14)
  clear HF37
  have HF53 := Lib.hid (Rd.wr HF38.out hwwz49 (fun a ha => by have h1 := (HIA.out a ha).1; have h2 := (HIA.out a ha).2; omega))
  clear HF38
  have HF54 := Lib.hid (Rd.wr HF39.out hwwz49 (fun a ha => by have h1 := (HIB.out a ha).1; have h2 := (HIB.out a ha).2; omega))
  clear HF39
  have HF55 := Lib.hid (HF40.out.on (Nat.le_of_eq hwwz49.size.symm))
  clear HF40
  have HF56 := Lib.hid (HF41.out.on (Nat.le_of_eq hwwz49.size.symm))
  clear HF41
  have HK57 := Lib.hid hBwz49
  clear HK42
  refine wnil (hKC43 _ _ (?_))
  clear hKC43
  refine wp_seq_k ?_
  intro KC58 hKC58
  refine wp_seq_k ?_
  intro KC59 hKC59
  refine wp_regionW ?_
  refine wloadR (some 43) (by kernel_rfl) (by kernel_rfl) 68 (.tmp 3) (by kernel_rfl) g14 0 (by kernel_rfl) #[.int .i64 (4 : Nat), .int .i64 ((f.id % 6 : Nat) : Int), .int .i64 ((f.off % 320 : Nat) : Int), .bool f.fin, .int .i64 (f.code : Nat), .slice A f.rngs.length c, .slice B f.data.length d] _ Tryz.underlying68 rfl (by kernel_rfl) HK57.out.whole ?_
  refine wcall (some 44) 57 #[.agg #[.int .i64 (4 : Nat), .int .i64 ((f.id % 6 : Nat) : Int), .int .i64 ((f.off % 320 : Nat) : Int), .bool f.fin, .int .i64 (f.code : Nat), .slice A f.rngs.length c, .slice B f.data.length d]] (by kernel_rfl) (by kernel_rfl) (by kernel_rfl) ?_
  refine (fCheck_ok (⟨4, f.id % 6, f.off % 320, f.fin, f.code, f.rngs, f.data⟩ : FrD) HOK2.out A c B d _ HF53.out hc hcm).mono ?_
  rintro e wz60 ⟨rfl, hbc⟩
  refine ⟨_, rfl, ?_⟩
  have HK61 := Lib.hid (HK50.out.carry hbc)
  clear HK50
  have HK62 := Lib.hid (HK51.out.carry hbc)
  clear HK51
  have HK63 := Lib.hid (HK57.out.carry hbc)
  clear HK57
  have HF64 := Lib.hid (HF52.out.trans (hbc.mono HF52.out.size))
  clear HF52
  have HF65 := Lib.hid (RdX.below HF53.out hbc)
  clear HF53
  have HF66 := Lib.hid (HF54.out.below hbc)
  clear HF54
  have HF67 := Lib.hid (HF55.out.on hbc.size)
  clear HF55
  have HF68 := Lib.hid (HF56.out.on hbc.size)
  clear HF56
  clear hbc
  refine wval (some 4) (.int .i64 0) wz60 (by kernel_rfl) (by kernel_rfl) (by kernel_rfl) ?_
  refine wnil (hKC59 _ _ (?_))
  clear hKC59
  refine wp_seq_k ?_
  intro KC69 hKC69
  refine wp_regionW ?_
  refine wval (some 45) (.int .i64 0) wz60 (by kernel_rfl) (by kernel_rfl) (by kernel_rfl) ?_
  refine wval (some 46) (.bool false) wz60 (by kernel_rfl) (by kernel_rfl) (by kernel_rfl) ?_
  refine wnil (hKC69 _ _ (?_))
  clear hKC69
  refine wp_cond_false (by kernel_rfl) ?_
  refine wp_skip (hKC58 _ _ (?_))
  clear hKC58
  refine wp_seq_k ?_
  intro KC70 hKC70
  refine wp_regionW ?_
  refine wloadR (some 48) (by kernel_rfl) (by kernel_rfl) 68 (.tmp 3) (by kernel_rfl) g14 0 (by kernel_rfl) #[.int .i64 (4 : Nat), .int .i64 ((f.id % 6 : Nat) : Int), .int .i64 ((f.off % 320 : Nat) : Int), .bool f.fin, .int .i64 (f.code : Nat), .slice A f.rngs.length c, .slice B f.data.length d] _ Tryz.underlying68 rfl (by kernel_rfl) HK63.out.whole ?_
  refine wstoreP (by kernel_rfl) (by kernel_rfl) 68 (.tmp 2) (.tmp 48) (by kernel_rfl) g5 0 (by kernel_rfl) #[.int .i64 (4 : Nat), .int .i64 ((f.id % 6 : Nat) : Int), .int .i64 ((f.off % 320 : Nat) : Int), .bool f.fin, .int .i64 (f.code : Nat), .slice A f.rngs.length c, .slice B f.data.length d] (by kernel_rfl) 68 #[.int .i64 0, .int .i64 0, .int .i64 0, .bool false, .int .i64 0, .slice none 0 0, .slice none 0 0] HK62.out (by kernel_rfl) (Nat.le_of_eq (by kernel_rfl)) (all_one (by kernel_rfl)) #[.int .i64 (4 : Nat), .int .i64 ((f.id % 6 : Nat) : Int), .int .i64 ((f.off % 320 : Nat) : Int), .bool f.fin, .int .i64 (f.code : Nat), .slice A f.rngs.length c, .slice B f.data.length d] (splice_all _ _ (by kernel_rfl)) ?_
  intro wz71 hBwz71 hwwz71
  have HK72 := Lib.hid (HK61.out.wr hwwz71 (Blk.neq HK61.out HK62.out (by decide)))
  clear HK61
  have HK73 := Lib.hid (HK63.out.wr hwwz71 (Ne.symm hneg5g14))
  clear HK63
  have HF74 := Lib.hid (hwwz71.trans_below HF64.out hlg5)
  clear HF64
  have HF75 := Lib.hid (Rd.wr HF65.out hwwz71 (fun a ha => by have h1 := (HIA.out a ha).1; have h2 := (HIA.out a ha).2; omega))
  clear HF65
  have HF76 := Lib.hid (Rd.wr HF66.out hwwz71 (fun a ha => by have h1 := (HIB.out a ha).1; have h2 := (HIB.out a ha).2; omega))
  clear HF66
  have HF77 := Lib.hid (HF67.out.on (Nat.le_of_eq hwwz71.size.symm))
  clear HF67
  have HF78 := Lib.hid (HF68.out.on (Nat.le_of_eq hwwz71.size.symm))
  clear HF68
  have HK79 := Lib.hid hBwz71
  clear HK62
  refine wnil (hKC70 _ _ (?_))
  clear hKC70
  refine wp_ret ?_
  refine bodyPost_ret (results_c1 _ _ g5 _ #[.int .i64 (4 : Nat), .int .i64 ((f.id % 6 : Nat) : Int), .int .i64 ((f.off % 320 : Nat) : Int), .bool f.fin, .int .i64 (f.code : Nat), .slice A f.rngs.length c, .slice B f.data.length d] _ Tryz.results26 (by kernel_rfl) HK79.out Tryz.underlying68 rfl (by kernel_rfl)) rfl ⟨A, c, B, d, rfl, HF75.out, HF76.out, hc, hcm, hd, hdm, HF74.out, HF77.out, HF78.out⟩
set_option maxRecDepth 100000 in
set_option maxHeartbeats 4000000 in
theorem connFrame_17 (r : RawD) (hr : RawOk r) (f : FrD) (ok : FrOk f) (hkd : f.kind = 17) (hf : ∀ w, Calls Tryz.prog 30 #[rawV r] w (FrOut w f)) (w : World) :
    Calls Tryz.prog 26 #[rawV r] w (FrOut w (⟨17, f.id % 6, f.off % 320, f.fin, f.code, f.rngs, f.data⟩ : FrD)) := by
  have HOK2 := Lib.hid (show FrOk (⟨17, f.id % 6, f.off % 320, f.fin, f.code, f.rngs, f.data⟩ : FrD) from FrOk.less ok hkd _ _ (Nat.mod_le _ _) (Nat.mod_le _ _))
  obtain ⟨⟨_, _⟩, ⟨a0, a1⟩, ⟨b0, b1⟩, _⟩ := hr
  skip
  have CF := Lib.hid hf
  unfold rawV at CF ⊢
  have HB0 := Lib.hid (Below.refl w.heap.size w)
  have hid := ok.id
  have hoff := ok.off
  clear hf
  go_enter Tryz.func26, Tryz.ntmps26
  refine wp_seq_k ?_
  intro KC1 hKC1
  refine wp_regionW ?_
  refine wnew (some 1) 59 #[.int .i64 r.kind, .int .i64 r.a, .int .i64 r.b, .string r.text] (fun q => .pointer (some ⟨q, 0, none⟩)) (by kernel_rfl) (by kernel_rfl) (by kernel_rfl) ?_
  intro wz3 g2 hg2 hBg2 hbg2
  have hlg2 : w.heap.size ≤ g2 := by rw [← hg2]; exact HB0.out.size
  have HF4 := Lib.hid (HB0.out.trans (hbg2.mono HB0.out.size))
  have HKg2 := Lib.hid hBg2
  clear hBg2 hbg2
  refine wnew (some 2) 68 #[.int .i64 0, .int .i64 0, .int .i64 0, .bool false, .int .i64 0, .slice none 0 0, .slice none 0 0] (fun q => .pointer (some ⟨q, 0, none⟩)) (by kernel_rfl) (by kernel_rfl) (by kernel_rfl) ?_
  intro wz6 g5 hg5 hBg5 hbg5
  have hlg5 : w.heap.size ≤ g5 := by rw [← hg5]; exact HF4.out.size
  have HK7 := Lib.hid (HKg2.out.carry hbg5)
  clear HKg2
  have HF8 := Lib.hid (HF4.out.trans (hbg5.mono HF4.out.size))
  clear HF4
  have HKg5 := Lib.hid hBg5
  clear hBg5 hbg5
  refine wnil (hKC1 _ _ (?_))
  clear hKC1
  refine wp_seq_k ?_
  intro KC9 hKC9
  refine wp_regionW ?_
  refine wloadR (some 5) (by kernel_rfl) (by kernel_rfl) 59 (.tmp 1) (by kernel_rfl) g2 0 (by kernel_rfl) #[.int .i64 r.kind, .int .i64 r.a, .int .i64 r.b, .string r.text] _ Tryz.underlying59 rfl (by kernel_rfl) HK7.out.whole ?_
  have hlt_g2 := HK7.out.lt
  have hlt_g5 := HKg5.out.lt
  have hszw := HF8.out.size
  refine wcall (some 6) 30 #[.agg #[.int .i64 r.kind, .int .i64 r.a, .int .i64 r.b, .string r.text]] (by kernel_rfl) (by kernel_rfl) (by kernel_rfl) ?_
  refine (CF.out _).mono ?_
  rintro e wz10 ⟨A, c, B, d, rfl, hA, hB, hc, hcm, hd, hdm, hbc, hiA, hiB⟩
  have HA := Lib.hid hA
  have HBt := Lib.hid hB
  have HIA := Lib.hid hiA
  have HIB := Lib.hid hiB
  have HFA := Lib.hid (hiA.step hszw)
  have HFB := Lib.hid (hiB.step hszw)
  clear hA hB hiA hiB
  unfold frcells
  rw [hkd]
  refine ⟨_, rfl, ?_⟩
  have HK11 := Lib.hid (HK7.out.carry hbc)
  clear HK7
  have HK12 := Lib.hid (HKg5.out.carry hbc)
  clear HKg5
  have HF13 := Lib.hid (HF8.out.trans (hbc.mono HF8.out.size))
  clear HF8
  clear hbc
  refine wnew (some 3) 68 #[.int .i64 0, .int .i64 0, .int .i64 0, .bool false, .int .i64 0, .slice none 0 0, .slice none 0 0] (fun q => .pointer (some ⟨q, 0, none⟩)) (by kernel_rfl) (by kernel_rfl) (by kernel_rfl) ?_
  intro wz15 g14 hg14 hBg14 hbg14
  have hneg5g14 : g5 ≠ g14 := by have := HK12.out.lt; omega
  have hlg14 : w.heap.size ≤ g14 := by rw [← hg14]; exact HF13.out.size
  have HK16 := Lib.hid (HK11.out.carry hbg14)
  clear HK11
  have HK17 := Lib.hid (HK12.out.carry hbg14)
  clear HK12
  have HF18 := Lib.hid (HF13.out.trans (hbg14.mono HF13.out.size))
  clear HF13
  have HF19 := Lib.hid (RdX.below HA.out hbg14)
  have HF20 := Lib.hid (HBt.out.below hbg14)
  have HF21 := Lib.hid (HFA.out.on hbg14.size)
  clear HFA
  have HF22 := Lib.hid (HFB.out.on hbg14.size)
  clear HFB
  have HKg14 := Lib.hid hBg14
  clear hBg14 hbg14
  refine wstoreP (by kernel_rfl) (by kernel_rfl) 68 (.tmp 3) (.tmp 6) (by kernel_rfl) g14 0 (by kernel_rfl) #[.int .i64 (17 : Nat), .int .i64 (f.id : Nat), .int .i64 (f.off : Nat), .bool f.fin, .int .i64 (f.code : Nat), .slice A f.rngs.length c, .slice B f.data.length d] (by kernel_rfl) 68 #[.int .i64 0, .int .i64 0, .int .i64 0, .bool false, .int .i64 0, .slice none 0 0, .slice none 0 0] HKg14.out (by kernel_rfl) (Nat.le_of_eq (by kernel_rfl)) (all_one (by kernel_rfl)) #[.int .i64 (17 : Nat), .int .i64 (f.id : Nat), .int .i64 (f.off : Nat), .bool f.fin, .int .i64 (f.code : Nat), .slice A f.rngs.length c, .slice B f.data.length d] (splice_all _ _ (by kernel_rfl)) ?_
  intro wz23 hBwz23 hwwz23
  have HK24 := Lib.hid (HK16.out.wr hwwz23 (Blk.neq HK16.out HKg14.out (by decide)))
  clear HK16
  have HK25 := Lib.hid (HK17.out.wr hwwz23 hneg5g14)
  clear HK17
  have HF26 := Lib.hid (hwwz23.trans_below HF18.out hlg14)
  clear HF18
  have HF27 := Lib.hid (Rd.wr HF19.out hwwz23 (fun a ha => by have h1 := (HIA.out a ha).1; have h2 := (HIA.out a ha).2; omega))
  clear HF19
  have HF28 := Lib.hid (Rd.wr HF20.out hwwz23 (fun a ha => by have h1 := (HIB.out a ha).1; have h2 := (HIB.out a ha).2; omega))
  clear HF20
  have HF29 := Lib.hid (HF21.out.on (Nat.le_of_eq hwwz23.size.symm))
  clear HF21
  have HF30 := Lib.hid (HF22.out.on (Nat.le_of_eq hwwz23.size.symm))
  clear HF22
  have HK31 := Lib.hid hBwz23
  clear HKg14
  refine wnil (hKC9 _ _ (?_))
  clear hKC9
  refine wp_seq_k ?_
  intro KC32 hKC32
  refine wp_regionW ?_
  refine wval (some 7) (.pointer (some ⟨g14, 1, none⟩)) wz23 (by kernel_rfl) (by kernel_rfl) (by kernel_rfl) ?_
  refine wload (some 8) (.int .i64 (f.id : Nat)) 3 (.tmp 7) g14 1 _ (by kernel_rfl) (by kernel_rfl) (by kernel_rfl) (by kernel_rfl) Tryz.underlying3 rfl (by rw [HK31.out.cell]; kernel_rfl) ?_
  refine wcall (some 9) 15 #[.int .i64 (f.id : Nat), .int .i64 6] (by kernel_rfl) (by kernel_rfl) (by kernel_rfl) ?_
  refine (picked_at _ 6 _ (by omega) (by omega) (by decide) (by decide) (modc f.id 6) _).mono ?_
  rintro e wz33 ⟨rfl, rfl⟩
  refine ⟨_, rfl, ?_⟩
  refine wval (some 10) (.pointer (some ⟨g14, 1, none⟩)) wz23 (by kernel_rfl) (by kernel_rfl) (by kernel_rfl) ?_
  refine wstore1 (by kernel_rfl) (by kernel_rfl) 3 (.tmp 10) (.tmp 9) (by kernel_rfl) g14 1 (by kernel_rfl) (.int .i64 ((f.id % 6 : Nat) : Int)) (by kernel_rfl) (by kernel_rfl) (by kernel_rfl) 68 #[.int .i64 (17 : Nat), .int .i64 (f.id : Nat), .int .i64 (f.off : Nat), .bool f.fin, .int .i64 (f.code : Nat), .slice A f.rngs.length c, .slice B f.data.length d] HK31.out (by kernel_rfl) (Nat.lt_of_lt_of_eq (show 1 < 7 by decide) (by kernel_rfl)) #[.int .i64 (17 : Nat), .int .i64 ((f.id % 6 : Nat) : Int), .int .i64 (f.off : Nat), .bool f.fin, .int .i64 (f.code : Nat), .slice A f.rngs.length c, .slice B f.data.length d] (by kernel_rfl) ?_
  intro wz34 hBwz34 hwwz34
  have HK35 := Lib.hid (HK24.out.wr hwwz34 (Blk.neq HK24.out HK31.out (by decide)))
  clear HK24
  have HK36 := Lib.hid (HK25.out.wr hwwz34 hneg5g14)
  clear HK25
  have HF37 := Lib.hid (hwwz34.trans_below HF26.out hlg14)
  clear HF26
  have HF38 := Lib.hid (Rd.wr HF27.out hwwz34 (fun a ha => by have h1 := (HIA.out a ha).1; have h2 := (HIA.out a ha).2; omega))
  clear HF27
  have HF39 := Lib.hid (Rd.wr HF28.out hwwz34 (fun a ha => by have h1 := (HIB.out a ha).1; have h2 := (HIB.out a ha).2; omega))
  clear HF28
  have HF40 := Lib.hid (HF29.out.on (Nat.le_of_eq hwwz34.size.symm))
  clear HF29
  have HF41 := Lib.hid (HF30.out.on (Nat.le_of_eq hwwz34.size.symm))
  clear HF30
  have HK42 := Lib.hid hBwz34
  clear HK31
  refine wnil (hKC32 _ _ (?_))
  clear hKC32
  refine wp_seq_k ?_
  intro KC43 hKC43
  refine wp_seq_k ?_
  intro KC44 hKC44
  refine wp_regionW ?_
  refine wval (some 11) (.pointer (some ⟨g14, 0, none⟩)) wz34 (by kernel_rfl) (by kernel_rfl) (by kernel_rfl) ?_
  refine wload (some 12) (.int .i64 (17 : Nat)) 3 (.tmp 11) g14 0 _ (by kernel_rfl) (by kernel_rfl) (by kernel_rfl) (by kernel_rfl) Tryz.underlying3 rfl (by rw [HK42.out.cell]; kernel_rfl) ?_
  refine wnil (hKC44 _ _ (?_))
  clear hKC44
  refine wp_block ?_
  refine wp_seq_k ?_
  intro KC45 hKC45
  refine wp_seq_k ?_
  intro KC46 hKC46
  refine wp_regionW ?_
  refine wval (some 14) (.bool false) wz34 (by kernel_rfl) (by kernel_rfl) (by kernel_rfl) ?_
  refine wval (some 13) (.bool false) wz34 (by kernel_rfl) (by kernel_rfl) (by kernel_rfl) ?_
  refine wnil (hKC46 _ _ (?_))
  clear hKC46
  refine wp_cond_false (by kernel_rfl) ?_
  refine wp_seq_k ?_
  intro KC47 hKC47
  refine wp_regionW ?_
  refine wval (some 15) (.bool false) wz34 (by kernel_rfl) (by kernel_rfl) (by kernel_rfl) ?_
  refine wval (some 13) (.bool false) wz34 (by kernel_rfl) (by kernel_rfl) (by kernel_rfl) ?_
  refine wnil (hKC47 _ _ (?_))
  clear hKC47
  refine wp_cond_false (by kernel_rfl) ?_
  refine wp_seq_k ?_
  intro KC48 hKC48
  refine wp_regionW ?_
  refine wval (some 16) (.bool true) wz34 (by kernel_rfl) (by kernel_rfl) (by kernel_rfl) ?_
  refine wval (some 13) (.bool true) wz34 (by kernel_rfl) (by kernel_rfl) (by kernel_rfl) ?_
  refine wnil (hKC48 _ _ (?_))
  clear hKC48
  refine wp_cond_true (by kernel_rfl) ?_
  refine wp_skip (hKC45 _ _ (?_))
  clear hKC45
  refine wp_cond_true (by kernel_rfl) ?_
  refine wp_regionW ?_
  refine wval (some 18) (.pointer (some ⟨g14, 2, none⟩)) wz34 (by kernel_rfl) (by kernel_rfl) (by kernel_rfl) ?_
  refine wload (some 19) (.int .i64 (f.off : Nat)) 3 (.tmp 18) g14 2 _ (by kernel_rfl) (by kernel_rfl) (by kernel_rfl) (by kernel_rfl) Tryz.underlying3 rfl (by rw [HK42.out.cell]; kernel_rfl) ?_
  refine wcall (some 20) 15 #[.int .i64 (f.off : Nat), .int .i64 320] (by kernel_rfl) (by kernel_rfl) (by kernel_rfl) ?_
  refine (picked_at _ 320 _ (by omega) (by omega) (by decide) (by decide) (modc f.off 320) _).mono ?_
  rintro e wz49 ⟨rfl, rfl⟩
  refine ⟨_, rfl, ?_⟩
  refine wval (some 21) (.pointer (some ⟨g14, 2, none⟩)) wz34 (by kernel_rfl) (by kernel_rfl) (by kernel_rfl) ?_
  refine wstore1 (by kernel_rfl) (by kernel_rfl) 3 (.tmp 21) (.tmp 20) (by kernel_rfl) g14 2 (by kernel_rfl) (.int .i64 ((f.off % 320 : Nat) : Int)) (by kernel_rfl) (by kernel_rfl) (by kernel_rfl) 68 #[.int .i64 (17 : Nat), .int .i64 ((f.id % 6 : Nat) : Int), .int .i64 (f.off : Nat), .bool f.fin, .int .i64 (f.code : Nat), .slice A f.rngs.length c, .slice B f.data.length d] HK42.out (by kernel_rfl) (Nat.lt_of_lt_of_eq (show 2 < 7 by decide) (by kernel_rfl)) #[.int .i64 (17 : Nat), .int .i64 ((f.id % 6 : Nat) : Int), .int .i64 ((f.off % 320 : Nat) : Int), .bool f.fin, .int .i64 (f.code : Nat), .slice A f.rngs.length c, .slice B f.data.length d] (by kernel_rfl) ?_
  intro wz50 hBwz50 hwwz50
  have HK51 := Lib.hid (HK35.out.wr hwwz50 (Blk.neq HK35.out HK42.out (by decide)))
  clear HK35
  have HK52 := Lib.hid (HK36.out.wr hwwz50 hneg5g14)
  clear HK36
  have HF53 := Lib.hid (hwwz50.trans_below HF37.out hlg14)
  clear HF37
  have HF54 := Lib.hid (Rd.wr HF38.out hwwz50 (fun a ha => by have h1 := (HIA.out a ha).1; have h2 := (HIA.out a ha).2; omega))
  clear HF38
  have HF55 := Lib.hid (Rd.wr HF39.out hwwz50 (fun a ha => by have h1 := (HIB.out a ha).1; have h2 := (HIB.out a ha).2; omega))
  clear HF39
  have HF56 := Lib.hid (HF40.out.on (Nat.le_of_eq hwwz50.size.symm))
  clear HF40
  have HF57 := Lib.hid (HF41.out.on (Nat.le_of_eq hwwz50.size.symm))
  clear HF41
  have HK58 := Lib.hid hBwz50
  clear HK42
  refine wnil (hKC43 _ _ (?_))
  clear hKC43
  refine wp_seq_k ?_
  intro KC59 hKC59
  refine wp_seq_k ?_
  intro KC60 hKC60
  refine wp_regionW ?_
  refine wloadR (some 43) (by kernel_rfl) (by kernel_rfl) 68 (.tmp 3) (by kernel_rfl) g14 0 (by kernel_rfl) #[.int .i64 (17 : Nat), .int .i64 ((f.id % 6 : Nat) : Int), .int .i64 ((f.off % 320 : Nat) : Int), .bool f.fin, .int .i64 (f.code : Nat), .slice A f.rngs.length c, .slice B f.data.length d] _ Tryz.underlying68 rfl (by kernel_rfl) HK58.out.whole ?_
  refine wcall (some 44) 57 #[.agg #[.int .i64 (17 : Nat), .int .i64 ((f.id % 6 : Nat) : Int), .int .i64 ((f.off % 320 : Nat) : Int), .bool f.fin, .int .i64 (f.code : Nat), .slice A f.rngs.length c, .slice B f.data.length d]] (by kernel_rfl) (by kernel_rfl) (by kernel_rfl) ?_
  refine (fCheck_ok (⟨17, f.id % 6, f.off % 320, f.fin, f.code, f.rngs, f.data⟩ : FrD) HOK2.out A c B d _ HF54.out hc hcm).mono ?_
  rintro e wz61 ⟨rfl, hbc⟩
  refine ⟨_, rfl, ?_⟩
  have HK62 := Lib.hid (HK51.out.carry hbc)
  clear HK51
  have HK63 := Lib.hid (HK52.out.carry hbc)
  clear HK52
  have HK64 := Lib.hid (HK58.out.carry hbc)
  clear HK58
  have HF65 := Lib.hid (HF53.out.trans (hbc.mono HF53.out.size))
  clear HF53
  have HF66 := Lib.hid (RdX.below HF54.out hbc)
  clear HF54
  have HF67 := Lib.hid (HF55.out.below hbc)
  clear HF55
  have HF68 := Lib.hid (HF56.out.on hbc.size)
  clear HF56
  have HF69 := Lib.hid (HF57.out.on hbc.size)
  clear HF57
  clear hbc
  refine wval (some 4) (.int .i64 0) wz61 (by kernel_rfl) (by kernel_rfl) (by kernel_rfl) ?_
  refine wnil (hKC60 _ _ (?_))
  clear hKC60
  refine wp_seq_k ?_
  intro KC70 hKC70
  refine wp_regionW ?_
  refine wval (some 45) (.int .i64 0) wz61 (by kernel_rfl) (by kernel_rfl) (by kernel_rfl) ?_
  refine wval (some 46) (.bool false) wz61 (by kernel_rfl) (by kernel_rfl) (by kernel_rfl) ?_
  refine wnil (hKC70 _ _ (?_))
  clear hKC70
  refine wp_cond_false (by kernel_rfl) ?_
  refine wp_skip (hKC59 _ _ (?_))
  clear hKC59
  refine wp_seq_k ?_
  intro KC71 hKC71
  refine wp_regionW ?_
  refine wloadR (some 48) (by kernel_rfl) (by kernel_rfl) 68 (.tmp 3) (by kernel_rfl) g14 0 (by kernel_rfl) #[.int .i64 (17 : Nat), .int .i64 ((f.id % 6 : Nat) : Int), .int .i64 ((f.off % 320 : Nat) : Int), .bool f.fin, .int .i64 (f.code : Nat), .slice A f.rngs.length c, .slice B f.data.length d] _ Tryz.underlying68 rfl (by kernel_rfl) HK64.out.whole ?_
  refine wstoreP (by kernel_rfl) (by kernel_rfl) 68 (.tmp 2) (.tmp 48) (by kernel_rfl) g5 0 (by kernel_rfl) #[.int .i64 (17 : Nat), .int .i64 ((f.id % 6 : Nat) : Int), .int .i64 ((f.off % 320 : Nat) : Int), .bool f.fin, .int .i64 (f.code : Nat), .slice A f.rngs.length c, .slice B f.data.length d] (by kernel_rfl) 68 #[.int .i64 0, .int .i64 0, .int .i64 0, .bool false, .int .i64 0, .slice none 0 0, .slice none 0 0] HK63.out (by kernel_rfl) (Nat.le_of_eq (by kernel_rfl)) (all_one (by kernel_rfl)) #[.int .i64 (17 : Nat), .int .i64 ((f.id % 6 : Nat) : Int), .int .i64 ((f.off % 320 : Nat) : Int), .bool f.fin, .int .i64 (f.code : Nat), .slice A f.rngs.length c, .slice B f.data.length d] (splice_all _ _ (by kernel_rfl)) ?_
  intro wz72 hBwz72 hwwz72
  have HK73 := Lib.hid (HK62.out.wr hwwz72 (Blk.neq HK62.out HK63.out (by decide)))
  clear HK62
  have HK74 := Lib.hid (HK64.out.wr hwwz72 (Ne.symm hneg5g14))
  clear HK64
  have HF75 := Lib.hid (hwwz72.trans_below HF65.out hlg5)
  clear HF65
  have HF76 := Lib.hid (Rd.wr HF66.out hwwz72 (fun a ha => by have h1 := (HIA.out a ha).1; have h2 := (HIA.out a ha).2; omega))
  clear HF66
  have HF77 := Lib.hid (Rd.wr HF67.out hwwz72 (fun a ha => by have h1 := (HIB.out a ha).1; have h2 := (HIB.out a ha).2; omega))
  clear HF67
  have HF78 := Lib.hid (HF68.out.on (Nat.le_of_eq hwwz72.size.symm))
  clear HF68
  have HF79 := Lib.hid (HF69.out.on (Nat.le_of_eq hwwz72.size.symm))
  clear HF69
  have HK80 := Lib.hid hBwz72
  clear HK63
  refine wnil (hKC71 _ _ (?_))
  clear hKC71
  refine wp_ret ?_
  refine bodyPost_ret (results_c1 _ _ g5 _ #[.int .i64 (17 : Nat), .int .i64 ((f.id % 6 : Nat) : Int), .int .i64 ((f.off % 320 : Nat) : Int), .bool f.fin, .int .i64 (f.code : Nat), .slice A f.rngs.length c, .slice B f.data.length d] _ Tryz.results26 (by kernel_rfl) HK80.out Tryz.underlying68 rfl (by kernel_rfl)) rfl ⟨A, c, B, d, rfl, HF76.out, HF77.out, hc, hcm, hd, hdm, HF75.out, HF78.out, HF79.out⟩
set_option maxRecDepth 100000 in
set_option maxHeartbeats 4000000 in
theorem connFrame_16 (r : RawD) (hr : RawOk r) (f : FrD) (ok : FrOk f) (hkd : f.kind = 16) (hf : ∀ w, Calls Tryz.prog 30 #[rawV r] w (FrOut w f)) (w : World) :
    Calls Tryz.prog 26 #[rawV r] w (FrOut w (⟨16, f.id % 6, f.off % 320, f.fin, f.code, f.rngs, f.data⟩ : FrD)) := by
  have HOK2 := Lib.hid (show FrOk (⟨16, f.id % 6, f.off % 320, f.fin, f.code, f.rngs, f.data⟩ : FrD) from FrOk.less ok hkd _ _ (Nat.mod_le _ _) (Nat.mod_le _ _))
  obtain ⟨⟨_, _⟩, ⟨a0, a1⟩, ⟨b0, b1⟩, _⟩ := hr
  skip
  have CF := Lib.hid hf
  unfold rawV at CF ⊢
  have HB0 := Lib.hid (Below.refl w.heap.size w)
  have hid := ok.id
  have hoff := ok.off
  clear hf
  go_enter Tryz.func26, Tryz.ntmps26
  refine wp_seq_k ?_
  intro KC1 hKC1
  refine wp_regionW ?_
  refine wnew (some 1) 59 #[.int .i64 r.kind, .int .i64 r.a, .int .i64 r.b, .string r.text] (fun q => .pointer (some ⟨q, 0, none⟩)) (by kernel_rfl) (by kernel_rfl) (by kernel_rfl) ?_
  intro wz3 g2 hg2 hBg2 hbg2
  have hlg2 : w.heap.size ≤ g2 := by rw [← hg2]; exact HB0.out.size
  have HF4 := Lib.hid (HB0.out.trans (hbg2.mono HB0.out.size))
  have HKg2 := Lib.hid hBg2
  clear hBg2 hbg2
  refine wnew (some 2) 68 #[.int .i64 0, .int .i64 0, .int .i64 0, .bool false, .int .i64 0, .slice none 0 0, .slice none 0 0] (fun q => .pointer (some ⟨q, 0, none⟩)) (by kernel_rfl) (by kernel_rfl) (by kernel_rfl) ?_
  intro wz6 g5 hg5 hBg5 hbg5
  have hlg5 : w.heap.size ≤ g5 := by rw [← hg5]; exact HF4.out.size
  have HK7 := Lib.hid (HKg2.out.carry hbg5)
  clear HKg2
  have HF8 := Lib.hid (HF4.out.trans (hbg5.mono HF4.out.size))
  clear HF4
  have HKg5 := Lib.hid hBg5
  clear hBg5 hbg5
  refine wnil (hKC1 _ _ (?_))
  clear hKC1
  refine wp_seq_k ?_
  intro KC9 hKC9
  refine wp_regionW ?_
  refine wloadR (some 5) (by kernel_rfl) (by kernel_rfl) 59 (.tmp 1) (by kernel_rfl) g2 0 (by kernel_rfl) #[.int .i64 r.kind, .int .i64 r.a, .int .i64 r.b, .string r.text] _ Tryz.underlying59 rfl (by kernel_rfl) HK7.out.whole ?_
  have hlt_g2 := HK7.out.lt
  have hlt_g5 := HKg5.out.lt
  have hszw := HF8.out.size
  refine wcall (some 6) 30 #[.agg #[.int .i64 r.kind, .int .i64 r.a, .int .i64 r.b, .string r.text]] (by kernel_rfl) (by kernel_rfl) (by kernel_rfl) ?_
  refine (CF.out _).mono ?_
  rintro e wz10 ⟨A, c, B, d, rfl, hA, hB, hc, hcm, hd, hdm, hbc, hiA, hiB⟩
  have HA := Lib.hid hA
  have HBt := Lib.hid hB
  have HIA := Lib.hid hiA
  have HIB := Lib.hid hiB
  have HFA := Lib.hid (hiA.step hszw)
  have HFB := Lib.hid (hiB.step hszw)
  clear hA hB hiA hiB
  unfold frcells
  rw [hkd]
  refine ⟨_, rfl, ?_⟩
  have HK11 := Lib.hid (HK7.out.carry hbc)
  clear HK7
  have HK12 := Lib.hid (HKg5.out.carry hbc)
  clear HKg5
  have HF13 := Lib.hid (HF8.out.trans (hbc.mono HF8.out.size))
  clear HF8
  clear hbc
  refine wnew (some 3) 68 #[.int .i64 0, .int .i64 0, .int .i64 0, .bool false, .int .i64 0, .slice none 0 0, .slice none 0 0] (fun q => .pointer (some ⟨q, 0, none⟩)) (by kernel_rfl) (by kernel_rfl) (by kernel_rfl) ?_
  intro wz15 g14 hg14 hBg14 hbg14
  have hneg5g14 : g5 ≠ g14 := by have := HK12.out.lt; omega
  have hlg14 : w.heap.size ≤ g14 := by rw [← hg14]; exact HF13.out.size
  have HK16 := Lib.hid (HK11.out.carry hbg14)
  clear HK11
  have HK17 := Lib.hid (HK12.out.carry hbg14)
  clear HK12
  have HF18 := Lib.hid (HF13.out.trans (hbg14.mono HF13.out.size))
  clear HF13
  have HF19 := Lib.hid (RdX.below HA.out hbg14)
  have HF20 := Lib.hid (HBt.out.below hbg14)
  have HF21 := Lib.hid (HFA.out.on hbg14.size)
  clear HFA
  have HF22 := Lib.hid (HFB.out.on hbg14.size)
  clear HFB
  have HKg14 := Lib.hid hBg14
  clear hBg14 hbg14
  refine wstoreP (by kernel_rfl) (by kernel_rfl) 68 (.tmp 3) (.tmp 6) (by kernel_rfl) g14 0 (by kernel_rfl) #[.int .i64 (16 : Nat), .int .i64 (f.id : Nat), .int .i64 (f.off : Nat), .bool f.fin, .int .i64 (f.code : Nat), .slice A f.rngs.length c, .slice B f.data.length d] (by kernel_rfl) 68 #[.int .i64 0, .int .i64 0, .int .i64 0, .bool false, .int .i64 0, .slice none 0 0, .slice none 0 0] HKg14.out (by kernel_rfl) (Nat.le_of_eq (by kernel_rfl)) (all_one (by kernel_rfl)) #[.int .i64 (16 : Nat), .int .i64 (f.id : Nat), .int .i64 (f.off : Nat), .bool f.fin, .int .i64 (f.code : Nat), .slice A f.rngs.length c, .slice B f.data.length d] (splice_all _ _ (by kernel_rfl)) ?_
  intro wz23 hBwz23 hwwz23
  have HK24 := Lib.hid (HK16.out.wr hwwz23 (Blk.neq HK16.out HKg14.out (by decide)))
  clear HK16
  have HK25 := Lib.hid (HK17.out.wr hwwz23 hneg5g14)
  clear HK17
  have HF26 := Lib.hid (hwwz23.trans_below HF18.out hlg14)
  clear HF18
  have HF27 := Lib.hid (Rd.wr HF19.out hwwz23 (fun a ha => by have h1 := (HIA.out a ha).1; have h2 := (HIA.out a ha).2; omega))
  clear HF19
  have HF28 := Lib.hid (Rd.wr HF20.out hwwz23 (fun a ha => by have h1 := (HIB.out a ha).1; have h2 := (HIB.out a ha).2; omega))
  clear HF20
  have HF29 := Lib.hid (HF21.out.on (Nat.le_of_eq hwwz23.size.symm))
  clear HF21
  have HF30 := Lib.hid (HF22.out.on (Nat.le_of_eq hwwz23.size.symm))
  clear HF22
  have HK31 := Lib.hid hBwz23
  clear HKg14
  refine wnil (hKC9 _ _ (?_))
  clear hKC9
  refine wp_seq_k ?_
  intro KC32 hKC32
  refine wp_regionW ?_
  refine wval (some 7) (.pointer (some ⟨g14, 1, none⟩)) wz23 (by kernel_rfl) (by kernel_rfl) (by kernel_rfl) ?_
  refine wload (some 8) (.int .i64 (f.id : Nat)) 3 (.tmp 7) g14 1 _ (by kernel_rfl) (by kernel_rfl) (by kernel_rfl) (by kernel_rfl) Tryz.underlying3 rfl (by rw [HK31.out.cell]; kernel_rfl) ?_
  refine wcall (some 9) 15 #[.int .i64 (f.id : Nat), .int .i64 6] (by kernel_rfl) (by kernel_rfl) (by kernel_rfl) ?_
  refine (picked_at _ 6 _ (by omega) (by omega) (by decide) (by decide) (modc f.id 6) _).mono ?_
  rintro e wz33 ⟨rfl, rfl⟩
  refine ⟨_, rfl, ?_⟩
  refine wval (some 10) (.pointer (some ⟨g14, 1, none⟩)) wz23 (by kernel_rfl) (by kernel_rfl) (by kernel_rfl) ?_
  refine wstore1 (by kernel_rfl) (by kernel_rfl) 3 (.tmp 10) (.tmp 9) (by kernel_rfl) g14 1 (by kernel_rfl) (.int .i64 ((f.id % 6 : Nat) : Int)) (by kernel_rfl) (by kernel_rfl) (by kernel_rfl) 68 #[.int .i64 (16 : Nat), .int .i64 (f.id : Nat), .int .i64 (f.off : Nat), .bool f.fin, .int .i64 (f.code : Nat), .slice A f.rngs.length c, .slice B f.data.length d] HK31.out (by kernel_rfl) (Nat.lt_of_lt_of_eq (show 1 < 7 by decide) (by kernel_rfl)) #[.int .i64 (16 : Nat), .int .i64 ((f.id % 6 : Nat) : Int), .int .i64 (f.off : Nat), .bool f.fin, .int .i64 (f.code : Nat), .slice A f.rngs.length c, .slice B f.data.length d] (by kernel_rfl) ?_
  intro wz34 hBwz34 hwwz34
  have HK35 := Lib.hid (HK24.out.wr hwwz34 (Blk.neq HK24.out HK31.out (by decide)))
  clear HK24
  have HK36 := Lib.hid (HK25.out.wr hwwz34 hneg5g14)
  clear HK25
  have HF37 := Lib.hid (hwwz34.trans_below HF26.out hlg14)
  clear HF26
  have HF38 := Lib.hid (Rd.wr HF27.out hwwz34 (fun a ha => by have h1 := (HIA.out a ha).1; have h2 := (HIA.out a ha).2; omega))
  clear HF27
  have HF39 := Lib.hid (Rd.wr HF28.out hwwz34 (fun a ha => by have h1 := (HIB.out a ha).1; have h2 := (HIB.out a ha).2; omega))
  clear HF28
  have HF40 := Lib.hid (HF29.out.on (Nat.le_of_eq hwwz34.size.symm))
  clear HF29
  have HF41 := Lib.hid (HF30.out.on (Nat.le_of_eq hwwz34.size.symm))
  clear HF30
  have HK42 := Lib.hid hBwz34
  clear HK31
  refine wnil (hKC32 _ _ (?_))
  clear hKC32
  refine wp_seq_k ?_
  intro KC43 hKC43
  refine wp_seq_k ?_
  intro KC44 hKC44
  refine wp_regionW ?_
  refine wval (some 11) (.pointer (some ⟨g14, 0, none⟩)) wz34 (by kernel_rfl) (by kernel_rfl) (by kernel_rfl) ?_
  refine wload (some 12) (.int .i64 (16 : Nat)) 3 (.tmp 11) g14 0 _ (by kernel_rfl) (by kernel_rfl) (by kernel_rfl) (by kernel_rfl) Tryz.underlying3 rfl (by rw [HK42.out.cell]; kernel_rfl) ?_
  refine wnil (hKC44 _ _ (?_))
  clear hKC44
  refine wp_block ?_
  refine wp_seq_k ?_
  intro KC45 hKC45
  refine wp_seq_k ?_
  intro KC46 hKC46
  refine wp_regionW ?_
  refine wval (some 14) (.bool false) wz34 (by kernel_rfl) (by kernel_rfl) (by kernel_rfl) ?_
  refine wval (some 13) (.bool false) wz34 (by kernel_rfl) (by kernel_rfl) (by kernel_rfl) ?_
  refine wnil (hKC46 _ _ (?_))
  clear hKC46
  refine wp_cond_false (by kernel_rfl) ?_
  refine wp_seq_k ?_
  intro KC47 hKC47
  refine wp_regionW ?_
  refine wval (some 15) (.bool false) wz34 (by kernel_rfl) (by kernel_rfl) (by kernel_rfl) ?_
  refine wval (some 13) (.bool false) wz34 (by kernel_rfl) (by kernel_rfl) (by kernel_rfl) ?_
  refine wnil (hKC47 _ _ (?_))
  clear hKC47
  refine wp_cond_false (by kernel_rfl) ?_
  refine wp_seq_k ?_
  intro KC48 hKC48
  refine wp_regionW ?_
  refine wval (some 16) (.bool false) wz34 (by kernel_rfl) (by kernel_rfl) (by kernel_rfl) ?_
  refine wval (some 13) (.bool false) wz34 (by kernel_rfl) (by kernel_rfl) (by kernel_rfl) ?_
  refine wnil (hKC48 _ _ (?_))
  clear hKC48
  refine wp_cond_false (by kernel_rfl) ?_
  refine wp_regionW ?_
  refine wval (some 17) (.bool true) wz34 (by kernel_rfl) (by kernel_rfl) (by kernel_rfl) ?_
  refine wval (some 13) (.bool true) wz34 (by kernel_rfl) (by kernel_rfl) (by kernel_rfl) ?_
  refine wnil (hKC45 _ _ (?_))
  clear hKC45
  refine wp_cond_true (by kernel_rfl) ?_
  refine wp_regionW ?_
  refine wval (some 18) (.pointer (some ⟨g14, 2, none⟩)) wz34 (by kernel_rfl) (by kernel_rfl) (by kernel_rfl) ?_
  refine wload (some 19) (.int .i64 (f.off : Nat)) 3 (.tmp 18) g14 2 _ (by kernel_rfl) (by kernel_rfl) (by kernel_rfl) (by kernel_rfl) Tryz.underlying3 rfl (by rw [HK42.out.cell]; kernel_rfl) ?_
  refine wcall (some 20) 15 #[.int .i64 (f.off : Nat), .int .i64 320] (by kernel_rfl) (by kernel_rfl) (by kernel_rfl) ?_
  refine (picked_at _ 320 _ (by omega) (by omega) (by decide) (by decide) (modc f.off 320) _).mono ?_
  rintro e wz49 ⟨rfl, rfl⟩
  refine ⟨_, rfl, ?_⟩
  refine wval (some 21) (.pointer (some ⟨g14, 2, none⟩)) wz34 (by kernel_rfl) (by kernel_rfl) (by kernel_rfl) ?_
  refine wstore1 (by kernel_rfl) (by kernel_rfl) 3 (.tmp 21) (.tmp 20) (by kernel_rfl) g14 2 (by kernel_rfl) (.int .i64 ((f.off % 320 : Nat) : Int)) (by kernel_rfl) (by kernel_rfl) (by kernel_rfl) 68 #[.int .i64 (16 : Nat), .int .i64 ((f.id % 6 : Nat) : Int), .int .i64 (f.off : Nat), .bool f.fin, .int .i64 (f.code : Nat), .slice A f.rngs.length c, .slice B f.data.length d] HK42.out (by kernel_rfl) (Nat.lt_of_lt_of_eq (show 2 < 7 by decide) (by kernel_rfl)) #[.int .i64 (16 : Nat), .int .i64 ((f.id % 6 : Nat) : Int), .int .i64 ((f.off % 320 : Nat) : Int), .bool f.fin, .int .i64 (f.code : Nat), .slice A f.rngs.length c, .slice B f.data.length d] (by kernel_rfl) ?_
  intro wz50 hBwz50 hwwz50
  have HK51 := Lib.hid (HK35.out.wr hwwz50 (Blk.neq HK35.out HK42.out (by decide)))
  clear HK35
  have HK52 := Lib.hid (HK36.out.wr hwwz50 hneg5g14)
  clear HK36
  have HF53 := Lib.hid (hwwz50.trans_below HF37.out hlg14)
  clear HF37
  have HF54 := Lib.hid (Rd.wr HF38.out hwwz50 (fun a ha => by have h1 := (HIA.out a ha).1; have h2 := (HIA.out a ha).2; omega))
  clear HF38
  have HF55 := Lib.hid (Rd.wr HF39.out hwwz50 (fun a ha => by have h1 := (HIB.out a ha).1; have h2 := (HIB.out a ha).2; omega))
  clear HF39
  have HF56 := Lib.hid (HF40.out.on (Nat.le_of_eq hwwz50.size.symm))
  clear HF40
  have HF57 := Lib.hid (HF41.out.on (Nat.le_of_eq hwwz50.size.symm))
  clear HF41
  have HK58 := Lib.hid hBwz50
  clear HK42
  refine wnil (hKC43 _ _ (?_))
  clear hKC43
  refine wp_seq_k ?_
  intro KC59 hKC59
  refine wp_seq_k ?_
  intro KC60 hKC60
  refine wp_regionW ?_
  refine wloadR (some 43) (by kernel_rfl) (by kernel_rfl) 68 (.tmp 3) (by kernel_rfl) g14 0 (by kernel_rfl) #[.int .i64 (16 : Nat), .int .i64 ((f.id % 6 : Nat) : Int), .int .i64 ((f.off % 320 : Nat) : Int), .bool f.fin, .int .i64 (f.code : Nat), .slice A f.rngs.length c, .slice B f.data.length d] _ Tryz.underlying68 rfl (by kernel_rfl) HK58.out.whole ?_
  refine wcall (some 44) 57 #[.agg #[.int .i64 (16 : Nat), .int .i64 ((f.id % 6 : Nat) : Int), .int .i64 ((f.off % 320 : Nat) : Int), .bool f.fin, .int .i64 (f.code : Nat), .slice A f.rngs.length c, .slice B f.data.length d]] (by kernel_rfl) (by kernel_rfl) (by kernel_rfl) ?_
  refine (fCheck_ok (⟨16, f.id % 6, f.off % 320, f.fin, f.code, f.rngs, f.data⟩ : FrD) HOK2.out A c B d _ HF54.out hc hcm).mono ?_
  rintro e wz61 ⟨rfl, hbc⟩
  refine ⟨_, rfl, ?_⟩
  have HK62 := Lib.hid (HK51.out.carry hbc)
  clear HK51
  have HK63 := Lib.hid (HK52.out.carry hbc)
  clear HK52
  have HK64 := Lib.hid (HK58.out.carry hbc)
  clear HK58
  have HF65 := Lib.hid (HF53.out.trans (hbc.mono HF53.out.size))
  clear HF53
  have HF66 := Lib.hid (RdX.below HF54.out hbc)
  clear HF54
  have HF67 := Lib.hid (HF55.out.below hbc)
  clear HF55
  have HF68 := Lib.hid (HF56.out.on hbc.size)
  clear HF56
  have HF69 := Lib.hid (HF57.out.on hbc.size)
  clear HF57
  clear hbc
  refine wval (some 4) (.int .i64 0) wz61 (by kernel_rfl) (by kernel_rfl) (by kernel_rfl) ?_
  refine wnil (hKC60 _ _ (?_))
  clear hKC60
  refine wp_seq_k ?_
  intro KC70 hKC70
  refine wp_regionW ?_
  refine wval (some 45) (.int .i64 0) wz61 (by kernel_rfl) (by kernel_rfl) (by kernel_rfl) ?_
  refine wval (some 46) (.bool false) wz61 (by kernel_rfl) (by kernel_rfl) (by kernel_rfl) ?_
  refine wnil (hKC70 _ _ (?_))
  clear hKC70
  refine wp_cond_false (by kernel_rfl) ?_
  refine wp_skip (hKC59 _ _ (?_))
  clear hKC59
  refine wp_seq_k ?_
  intro KC71 hKC71
  refine wp_regionW ?_
  refine wloadR (some 48) (by kernel_rfl) (by kernel_rfl) 68 (.tmp 3) (by kernel_rfl) g14 0 (by kernel_rfl) #[.int .i64 (16 : Nat), .int .i64 ((f.id % 6 : Nat) : Int), .int .i64 ((f.off % 320 : Nat) : Int), .bool f.fin, .int .i64 (f.code : Nat), .slice A f.rngs.length c, .slice B f.data.length d] _ Tryz.underlying68 rfl (by kernel_rfl) HK64.out.whole ?_
  refine wstoreP (by kernel_rfl) (by kernel_rfl) 68 (.tmp 2) (.tmp 48) (by kernel_rfl) g5 0 (by kernel_rfl) #[.int .i64 (16 : Nat), .int .i64 ((f.id % 6 : Nat) : Int), .int .i64 ((f.off % 320 : Nat) : Int), .bool f.fin, .int .i64 (f.code : Nat), .slice A f.rngs.length c, .slice B f.data.length d] (by kernel_rfl) 68 #[.int .i64 0, .int .i64 0, .int .i64 0, .bool false, .int .i64 0, .slice none 0 0, .slice none 0 0] HK63.out (by kernel_rfl) (Nat.le_of_eq (by kernel_rfl)) (all_one (by kernel_rfl)) #[.int .i64 (16 : Nat), .int .i64 ((f.id % 6 : Nat) : Int), .int .i64 ((f.off % 320 : Nat) : Int), .bool f.fin, .int .i64 (f.code : Nat), .slice A f.rngs.length c, .slice B f.data.length d] (splice_all _ _ (by kernel_rfl)) ?_
  intro wz72 hBwz72 hwwz72
  have HK73 := Lib.hid (HK62.out.wr hwwz72 (Blk.neq HK62.out HK63.out (by decide)))
  clear HK62
  have HK74 := Lib.hid (HK64.out.wr hwwz72 (Ne.symm hneg5g14))
  clear HK64
  have HF75 := Lib.hid (hwwz72.trans_below HF65.out hlg5)
  clear HF65
  have HF76 := Lib.hid (Rd.wr HF66.out hwwz72 (fun a ha => by have h1 := (HIA.out a ha).1; have h2 := (HIA.out a ha).2; omega))
  clear HF66
  have HF77 := Lib.hid (Rd.wr HF67.out hwwz72 (fun a ha => by have h1 := (HIB.out a ha).1; have h2 := (HIB.out a ha).2; omega))
  clear HF67
  have HF78 := Lib.hid (HF68.out.on (Nat.le_of_eq hwwz72.size.symm))
  clear HF68
  have HF79 := Lib.hid (HF69.out.on (Nat.le_of_eq hwwz72.size.symm))
  clear HF69
  have HK80 := Lib.hid hBwz72
  clear HK63
  refine wnil (hKC71 _ _ (?_))
  clear hKC71
  refine wp_ret ?_
  refine bodyPost_ret (results_c1 _ _ g5 _ #[.int .i64 (16 : Nat), .int .i64 ((f.id % 6 : Nat) : Int), .int .i64 ((f.off % 320 : Nat) : Int), .bool f.fin, .int .i64 (f.code : Nat), .slice A f.rngs.length c, .slice B f.data.length d] _ Tryz.results26 (by kernel_rfl) HK80.out Tryz.underlying68 rfl (by kernel_rfl)) rfl ⟨A, c, B, d, rfl, HF76.out, HF77.out, hc, hcm, hd, hdm, HF75.out, HF78.out, HF79.out⟩
set_option maxRecDepth 100000 in
set_option maxHeartbeats 4000000 in
theorem connFrame_18 (r : RawD) (hr : RawOk r) (f : FrD) (ok : FrOk f) (hkd : f.kind = 18) (hf : ∀ w, Calls Tryz.prog 30 #[rawV r] w (FrOut w f)) (w : World) :
    Calls Tryz.prog 26 #[rawV r] w (FrOut w (⟨18, f.id % 6, f.off % 9, f.fin, f.code, f.rngs, f.data⟩ : FrD)) := by
  have HOK2 := Lib.hid (show FrOk (⟨18, f.id % 6, f.off % 9, f.fin, f.code, f.rngs, f.data⟩ : FrD) from FrOk.less ok hkd _ _ (Nat.mod_le _ _) (Nat.mod_le _ _))
  obtain ⟨⟨_, _⟩, ⟨a0, a1⟩, ⟨b0, b1⟩, _⟩ := hr
  skip
  have CF := Lib.hid hf
  unfold rawV at CF ⊢
  have HB0 := Lib.hid (Below.refl w.heap.size w)
  have hid := ok.id
  have hoff := ok.off
  clear hf
  go_enter Tryz.func26, Tryz.ntmps26
  refine wp_seq_k ?_
  intro KC1 hKC1
  refine wp_regionW ?_
  refine wnew (some 1) 59 #[.int .i64 r.kind, .int .i64 r.a, .int .i64 r.b, .string r.text] (fun q => .pointer (some ⟨q, 0, none⟩)) (by kernel_rfl) (by kernel_rfl) (by kernel_rfl) ?_
  intro wz3 g2 hg2 hBg2 hbg2
  have hlg2 : w.heap.size ≤ g2 := by rw [← hg2]; exact HB0.out.size
  have HF4 := Lib.hid (HB0.out.trans (hbg2.mono HB0.out.size))
  have HKg2 := Lib.hid hBg2
  clear hBg2 hbg2
  refine wnew (some 2) 68 #[.int .i64 0, .int .i64 0, .int .i64 0, .bool false, .int .i64 0, .slice none 0 0, .slice none 0 0] (fun q => .pointer (some ⟨q, 0, none⟩)) (by kernel_rfl) (by kernel_rfl) (by kernel_rfl) ?_
  intro wz6 g5 hg5 hBg5 hbg5
  have hlg5 : w.heap.size ≤ g5 := by rw [← hg5]; exact HF4.out.size
  have HK7 := Lib.hid (HKg2.out.carry hbg5)
  clear HKg2
  have HF8 := Lib.hid (HF4.out.trans (hbg5.mono HF4.out.size))
  clear HF4
  have HKg5 := Lib.hid hBg5
  clear hBg5 hbg5
  refine wnil (hKC1 _ _ (?_))
  clear hKC1
  refine wp_seq_k ?_
  intro KC9 hKC9
  refine wp_regionW ?_
  refine wloadR (some 5) (by kernel_rfl) (by kernel_rfl) 59 (.tmp 1) (by kernel_rfl) g2 0 (by kernel_rfl) #[.int .i64 r.kind, .int .i64 r.a, .int .i64 r.b, .string r.text] _ Tryz.underlying59 rfl (by kernel_rfl) HK7.out.whole ?_
  have hlt_g2 := HK7.out.lt
  have hlt_g5 := HKg5.out.lt
  have hszw := HF8.out.size
  refine wcall (some 6) 30 #[.agg #[.int .i64 r.kind, .int .i64 r.a, .int .i64 r.b, .string r.text]] (by kernel_rfl) (by kernel_rfl) (by kernel_rfl) ?_
  refine (CF.out _).mono ?_
  rintro e wz10 ⟨A, c, B, d, rfl, hA, hB, hc, hcm, hd, hdm, hbc, hiA, hiB⟩
  have HA := Lib.hid hA
  have HBt := Lib.hid hB
  have HIA := Lib.hid hiA
  have HIB := Lib.hid hiB
  have HFA := Lib.hid (hiA.step hszw)
  have HFB := Lib.hid (hiB.step hszw)
  clear hA hB hiA hiB
  unfold frcells
  rw [hkd]
  refine ⟨_, rfl, ?_⟩
  have HK11 := Lib.hid (HK7.out.carry hbc)
  clear HK7
  have HK12 := Lib.hid (HKg5.out.carry hbc)
  clear HKg5
  have HF13 := Lib.hid (HF8.out.trans (hbc.mono HF8.out.size))
  clear HF8
  clear hbc
  refine wnew (some 3) 68 #[.int .i64 0, .int .i64 0, .int .i64 0, .bool false, .int .i64 0, .slice none 0 0, .slice none 0 0] (fun q => .pointer (some ⟨q, 0, none⟩)) (by kernel_rfl) (by kernel_rfl) (by kernel_rfl) ?_
  intro wz15 g14 hg14 hBg14 hbg14
  have hneg5g14 : g5 ≠ g14 := by have := HK12.out.lt; omega
  have hlg14 : w.heap.size ≤ g14 := by rw [← hg14]; exact HF13.out.size
  have HK16 := Lib.hid (HK11.out.carry hbg14)
  clear HK11
  have HK17 := Lib.hid (HK12.out.carry hbg14)
  clear HK12
  have HF18 := Lib.hid (HF13.out.trans (hbg14.mono HF13.out.size))
  clear HF13
  have HF19 := Lib.hid (RdX.below HA.out hbg14)
  have HF20 := Lib.hid (HBt.out.below hbg14)
  have HF21 := Lib.hid (HFA.out.on hbg14.size)
  clear HFA
  have HF22 := Lib.hid (HFB.out.on hbg14.size)
  clear HFB
  have HKg14 := Lib.hid hBg14
  clear hBg14 hbg14
  refine wstoreP (by kernel_rfl) (by kernel_rfl) 68 (.tmp 3) (.tmp 6) (by kernel_rfl) g14 0 (by kernel_rfl) #[.int .i64 (18 : Nat), .int .i64 (f.id : Nat), .int .i64 (f.off : Nat), .bool f.fin, .int .i64 (f.code : Nat), .slice A f.rngs.length c, .slice B f.data.length d] (by kernel_rfl) 68 #[.int .i64 0, .int .i64 0, .int .i64 0, .bool false, .int .i64 0, .slice none 0 0, .slice none 0 0] HKg14.out (by kernel_rfl) (Nat.le_of_eq (by kernel_rfl)) (all_one (by kernel_rfl)) #[.int .i64 (18 : Nat), .int .i64 (f.id : Nat), .int .i64 (f.off : Nat), .bool f.fin, .int .i64 (f.code : Nat), .slice A f.rngs.length c, .slice B f.data.length d] (splice_all _ _ (by kernel_rfl)) ?_
  intro wz23 hBwz23 hwwz23
  have HK24 := Lib.hid (HK16.out.wr hwwz23 (Blk.neq HK16.out HKg14.out (by decide)))
  clear HK16
  have HK25 := Lib.hid (HK17.out.wr hwwz23 hneg5g14)
  clear HK17
  have HF26 := Lib.hid (hwwz23.trans_below HF18.out hlg14)
  clear HF18
  have HF27 := Lib.hid (Rd.wr HF19.out hwwz23 (fun a ha => by have h1 := (HIA.out a ha).1; have h2 := (HIA.out a ha).2; omega))
  clear HF19
  have HF28 := Lib.hid (Rd.wr HF20.out hwwz23 (fun a ha => by have h1 := (HIB.out a ha).1; have h2 := (HIB.out a ha).2; omega))
  clear HF20
  have HF29 := Lib.hid (HF21.out.on (Nat.le_of_eq hwwz23.size.symm))
  clear HF21
  have HF30 := Lib.hid (HF22.out.on (Nat.le_of_eq hwwz23.size.symm))
  clear HF22
  have HK31 := Lib.hid hBwz23
  clear HKg14
  refine wnil (hKC9 _ _ (?_))
  clear hKC9
  refine wp_seq_k ?_
  intro KC32 hKC32
  refine wp_regionW ?_
  refine wval (some 7) (.pointer (some ⟨g14, 1, none⟩)) wz23 (by kernel_rfl) (by kernel_rfl) (by kernel_rfl) ?_
  refine wload (some 8) (.int .i64 (f.id : Nat)) 3 (.tmp 7) g14 1 _ (by kernel_rfl) (by kernel_rfl) (by kernel_rfl) (by kernel_rfl) Tryz.underlying3 rfl (by rw [HK31.out.cell]; kernel_rfl) ?_
  refine wcall (some 9) 15 #[.int .i64 (f.id : Nat), .int .i64 6] (by kernel_rfl) (by kernel_rfl) (by kernel_rfl) ?_
  refine (picked_at _ 6 _ (by omega) (by omega) (by decide) (by decide) (modc f.id 6) _).mono ?_
  rintro e wz33 ⟨rfl, rfl⟩
  refine ⟨_, rfl, ?_⟩
  refine wval (some 10) (.pointer (some ⟨g14, 1, none⟩)) wz23 (by kernel_rfl) (by kernel_rfl) (by kernel_rfl) ?_
  refine wstore1 (by kernel_rfl) (by kernel_rfl) 3 (.tmp 10) (.tmp 9) (by kernel_rfl) g14 1 (by kernel_rfl) (.int .i64 ((f.id % 6 : Nat) : Int)) (by kernel_rfl) (by kernel_rfl) (by kernel_rfl) 68 #[.int .i64 (18 : Nat), .int .i64 (f.id : Nat), .int .i64 (f.off : Nat), .bool f.fin, .int .i64 (f.code : Nat), .slice A f.rngs.length c, .slice B f.data.length d] HK31.out (by kernel_rfl) (Nat.lt_of_lt_of_eq (show 1 < 7 by decide) (by kernel_rfl)) #[.int .i64 (18 : Nat), .int .i64 ((f.id % 6 : Nat) : Int), .int .i64 (f.off : Nat), .bool f.fin, .int .i64 (f.code : Nat), .slice A f.rngs.length c, .slice B f.data.length d] (by kernel_rfl) ?_
  intro wz34 hBwz34 hwwz34
  have HK35 := Lib.hid (HK24.out.wr hwwz34 (Blk.neq HK24.out HK31.out (by decide)))
  clear HK24
  have HK36 := Lib.hid (HK25.out.wr hwwz34 hneg5g14)
  clear HK25
  have HF37 := Lib.hid (hwwz34.trans_below HF26.out hlg14)
  clear HF26
  have HF38 := Lib.hid (Rd.wr HF27.out hwwz34 (fun a ha => by have h1 := (HIA.out a ha).1; have h2 := (HIA.out a ha).2; omega))
  clear HF27
  have HF39 := Lib.hid (Rd.wr HF28.out hwwz34 (fun a ha => by have h1 := (HIB.out a ha).1; have h2 := (HIB.out a ha).2; omega))
  clear HF28
  have HF40 := Lib.hid (HF29.out.on (Nat.le_of_eq hwwz34.size.symm))
  clear HF29
  have HF41 := Lib.hid (HF30.out.on (Nat.le_of_eq hwwz34.size.symm))
  clear HF30
  have HK42 := Lib.hid hBwz34
  clear HK31
  refine wnil (hKC32 _ _ (?_))
  clear hKC32
  refine wp_seq_k ?_
  intro KC43 hKC43
  refine wp_seq_k ?_
  intro KC44 hKC44
  refine wp_regionW ?_
  refine wval (some 11) (.pointer (some ⟨g14, 0, none⟩)) wz34 (by kernel_rfl) (by kernel_rfl) (by kernel_rfl) ?_
  refine wload (some 12) (.int .i64 (18 : Nat)) 3 (.tmp 11) g14 0 _ (by kernel_rfl) (by kernel_rfl) (by kernel_rfl) (by kernel_rfl) Tryz.underlying3 rfl (by rw [HK42.out.cell]; kernel_rfl) ?_
  refine wnil (hKC44 _ _ (?_))
  clear hKC44
  refine wp_block ?_
  refine wp_seq_k ?_
  intro KC45 hKC45
  refine wp_seq_k ?_
  intro KC46 hKC46
  refine wp_regionW ?_
  refine wval (some 14) (.bool false) wz34 (by kernel_rfl) (by kernel_rfl) (by kernel_rfl) ?_
  refine wval (some 13) (.bool false) wz34 (by kernel_rfl) (by kernel_rfl) (by kernel_rfl) ?_
  refine wnil (hKC46 _ _ (?_))
  clear hKC46
  refine wp_cond_false (by kernel_rfl) ?_
  refine wp_seq_k ?_
  intro KC47 hKC47
  refine wp_regionW ?_
  refine wval (some 15) (.bool false) wz34 (by kernel_rfl) (by kernel_rfl) (by kernel_rfl) ?_
  refine wval (some 13) (.bool false) wz34 (by kernel_rfl) (by kernel_rfl) (by kernel_rfl) ?_
  refine wnil (hKC47 _ _ (?_))
  clear hKC47
  refine wp_cond_false (by kernel_rfl) ?_
  refine wp_seq_k ?_
  intro KC48 hKC48
  refine wp_regionW ?_
  refine wval (some 16) (.bool false) wz34 (by kernel_rfl) (by kernel_rfl) (by kernel_rfl) ?_
  refine wval (some 13) (.bool false) wz34 (by kernel_rfl) (by kernel_rfl) (by kernel_rfl) ?_
  refine wnil (hKC48 _ _ (?_))
  clear hKC48
  refine wp_cond_false (by kernel_rfl) ?_
  refine wp_regionW ?_
  refine wval (some 17) (.bool false) wz34 (by kernel_rfl) (by kernel_rfl) (by kernel_rfl) ?_
  refine wval (some 13) (.bool false) wz34 (by kernel_rfl) (by kernel_rfl) (by kernel_rfl) ?_
  refine wnil (hKC45 _ _ (?_))
  clear hKC45
  refine wp_cond_false (by kernel_rfl) ?_
  refine wp_seq_k ?_
  intro KC49 hKC49
  refine wp_regionW ?_
  refine wval (some 23) (.bool true) wz34 (by kernel_rfl) (by kernel_rfl) (by kernel_rfl) ?_
  refine wval (some 22) (.bool true) wz34 (by kernel_rfl) (by kernel_rfl) (by kernel_rfl) ?_
  refine wnil (hKC49 _ _ (?_))
  clear hKC49
  refine wp_cond_true (by kernel_rfl) ?_
  refine wp_regionW ?_
  refine wval (some 24) (.pointer (some ⟨g14, 2, none⟩)) wz34 (by kernel_rfl) (by kernel_rfl) (by kernel_rfl) ?_
  refine wload (some 25) (.int .i64 (f.off : Nat)) 3 (.tmp 24) g14 2 _ (by kernel_rfl) (by kernel_rfl) (by kernel_rfl) (by kernel_rfl) Tryz.underlying3 rfl (by rw [HK42.out.cell]; kernel_rfl) ?_
  refine wcall (some 26) 15 #[.int .i64 (f.off : Nat), .int .i64 9] (by kernel_rfl) (by kernel_rfl) (by kernel_rfl) ?_
  refine (picked_at _ 9 _ (by omega) (by omega) (by decide) (by decide) (modc f.off 9) _).mono ?_
  rintro e wz50 ⟨rfl, rfl⟩
  refine ⟨_, rfl, ?_⟩
  refine wval (some 27) (.pointer (some ⟨g14, 2, none⟩)) wz34 (by kernel_rfl) (by kernel_rfl) (by kernel_rfl) ?_
  refine wstore1 (by kernel_rfl) (by kernel_rfl) 3 (.tmp 27) (.tmp 26) (by kernel_rfl) g14 2 (by kernel_rfl) (.int .i64 ((f.off % 9 : Nat) : Int)) (by kernel_rfl) (by kernel_rfl) (by kernel_rfl) 68 #[.int .i64 (18 : Nat), .int .i64 ((f.id % 6 : Nat) : Int), .int .i64 (f.off : Nat), .bool f.fin, .int .i64 (f.code : Nat), .slice A f.rngs.length c, .slice B f.data.length d] HK42.out (by kernel_rfl) (Nat.lt_of_lt_of_eq (show 2 < 7 by decide) (by kernel_rfl)) #[.int .i64 (18 : Nat), .int .i64 ((f.id % 6 : Nat) : Int), .int .i64 ((f.off % 9 : Nat) : Int), .bool f.fin, .int .i64 (f.code : Nat), .slice A f.rngs.length c, .slice B f.data.length d] (by kernel_rfl) ?_
  intro wz51 hBwz51 hwwz51
  have HK52 := Lib.hid (HK35.out.wr hwwz51 (Blk.neq HK35.out HK42.out (by decide)))
  clear HK35
  have HK53 := Lib.hid (HK36.out.wr hwwz51 hneg5g14)
  clear HK36
  have HF54 := Lib.hid (hwwz51.trans_below HF37.out hlg14)
  clear HF37
  have HF55 := Lib.hid (Rd.wr HF38.out hwwz51 (fun a ha => by have h1 := (HIA.out a ha).1; have h2 := (HIA.out a ha).2; omega))
  clear HF38
  have HF56 := Lib.hid (Rd.wr HF39.out hwwz51 (fun a ha => by have h1 := (HIB.out a ha).1; have h2 := (HIB.out a ha).2; omega))
  clear HF39
  have HF57 := Lib.hid (HF40.out.on (Nat.le_of_eq hwwz51.size.symm))
  clear HF40
  have HF58 := Lib.hid (HF41.out.on (Nat.le_of_eq hwwz51.size.symm))
  clear HF41
  have HK59 := Lib.hid hBwz51
  clear HK42
  refine wnil (hKC43 _ _ (?_))
  clear hKC43
  refine wp_seq_k ?_
  intro KC60 hKC60
  refine wp_seq_k ?_
  intro KC61 hKC61
  refine wp_regionW ?_
  refine wloadR (some 43) (by kernel_rfl) (by kernel_rfl) 68 (.tmp 3) (by kernel_rfl) g14 0 (by kernel_rfl) #[.int .i64 (18 : Nat), .int .i64 ((f.id % 6 : Nat) : Int), .int .i64 ((f.off % 9 : Nat) : Int), .bool f.fin, .int .i64 (f.code : Nat), .slice A f.rngs.length c, .slice B f.data.length d] _ Tryz.underlying68 rfl (by kernel_rfl) HK59.out.whole ?_
  refine wcall (some 44) 57 #[.agg #[.int .i64 (18 : Nat), .int .i64 ((f.id % 6 : Nat) : Int), .int .i64 ((f.off % 9 : Nat) : Int), .bool f.fin, .int .i64 (f.code : Nat), .slice A f.rngs.length c, .slice B f.data.length d]] (by kernel_rfl) (by kernel_rfl) (by kernel_rfl) ?_
  refine (fCheck_ok (⟨18, f.id % 6, f.off % 9, f.fin, f.code, f.rngs, f.data⟩ : FrD) HOK2.out A c B d _ HF55.out hc hcm).mono ?_
  rintro e wz62 ⟨rfl, hbc⟩
  refine ⟨_, rfl, ?_⟩
  have HK63 := Lib.hid (HK52.out.carry hbc)
  clear HK52
  have HK64 := Lib.hid (HK53.out.carry hbc)
  clear HK53
  have HK65 := Lib.hid (HK59.out.carry hbc)
  clear HK59
  have HF66 := Lib.hid (HF54.out.trans (hbc.mono HF54.out.size))
  clear HF54
  have HF67 := Lib.hid (RdX.below HF55.out hbc)
  clear HF55
  have HF68 := Lib.hid (HF56.out.below hbc)
  clear HF56
  have HF69 := Lib.hid (HF57.out.on hbc.size)
  clear HF57
  have HF70 := Lib.hid (HF58.out.on hbc.size)
  clear HF58
  clear hbc
  refine wval (some 4) (.int .i64 0) wz62 (by kernel_rfl) (by kernel_rfl) (by kernel_rfl) ?_
  refine wnil (hKC61 _ _ (?_))
  clear hKC61
  refine wp_seq_k ?_
  intro KC71 hKC71
  refine wp_regionW ?_
  refine wval (some 45) (.int .i64 0) wz62 (by kernel_rfl) (by kernel_rfl) (by kernel_rfl) ?_
  refine wval (some 46) (.bool false) wz62 (by kernel_rfl) (by kernel_rfl) (by kernel_rfl) ?_
  refine wnil (hKC71 _ _ (?_))
  clear hKC71
  refine wp_cond_false (by kernel_rfl) ?_
  refine wp_skip (hKC60 _ _ (?_))
  clear hKC60
  refine wp_seq_k ?_
  intro KC72 hKC72
  refine wp_regionW ?_
  refine wloadR (some 48) (by kernel_rfl) (by kernel_rfl) 68 (.tmp 3) (by kernel_rfl) g14 0 (by kernel_rfl) #[.int .i64 (18 : Nat), .int .i64 ((f.id % 6 : Nat) : Int), .int .i64 ((f.off % 9 : Nat) : Int), .bool f.fin, .int .i64 (f.code : Nat), .slice A f.rngs.length c, .slice B f.data.length d] _ Tryz.underlying68 rfl (by kernel_rfl) HK65.out.whole ?_
  refine wstoreP (by kernel_rfl) (by kernel_rfl) 68 (.tmp 2) (.tmp 48) (by kernel_rfl) g5 0 (by kernel_rfl) #[.int .i64 (18 : Nat), .int .i64 ((f.id % 6 : Nat) : Int), .int .i64 ((f.off % 9 : Nat) : Int), .bool f.fin, .int .i64 (f.code : Nat), .slice A f.rngs.length c, .slice B f.data.length d] (by kernel_rfl) 68 #[.int .i64 0, .int .i64 0, .int .i64 0, .bool false, .int .i64 0, .slice none 0 0, .slice none 0 0] HK64.out (by kernel_rfl) (Nat.le_of_eq (by kernel_rfl)) (all_one (by kernel_rfl)) #[.int .i64 (18 : Nat), .int .i64 ((f.id % 6 : Nat) : Int), .int .i64 ((f.off % 9 : Nat) : Int), .bool f.fin, .int .i64 (f.code : Nat), .slice A f.rngs.length c, .slice B f.data.length d] (splice_all _ _ (by kernel_rfl)) ?_
  intro wz73 hBwz73 hwwz73
  have HK74 := Lib.hid (HK63.out.wr hwwz73 (Blk.neq HK63.out HK64.out (by decide)))
  clear HK63
  have HK75 := Lib.hid (HK65.out.wr hwwz73 (Ne.symm hneg5g14))
  clear HK65
  have HF76 := Lib.hid (hwwz73.trans_below HF66.out hlg5)
  clear HF66
  have HF77 := Lib.hid (Rd.wr HF67.out hwwz73 (fun a ha => by have h1 := (HIA.out a ha).1; have h2 := (HIA.out a ha).2; omega))
  clear HF67
  have HF78 := Lib.hid (Rd.wr HF68.out hwwz73 (fun a ha => by have h1 := (HIB.out a ha).1; have h2 := (HIB.out a ha).2; omega))
  clear HF68
  have HF79 := Lib.hid (HF69.out.on (Nat.le_of_eq hwwz73.size.symm))
  clear HF69
  have HF80 := Lib.hid (HF70.out.on (Nat.le_of_eq hwwz73.size.symm))
  clear HF70
  have HK81 := Lib.hid hBwz73
  clear HK64
  refine wnil (hKC72 _ _ (?_))
  clear hKC72
  refine wp_ret ?_
  refine bodyPost_ret (results_c1 _ _ g5 _ #[.int .i64 (18 : Nat), .int .i64 ((f.id % 6 : Nat) : Int), .int .i64 ((f.off % 9 : Nat) : Int), .bool f.fin, .int .i64 (f.code : Nat), .slice A f.rngs.length c, .slice B f.data.length d] _ Tryz.results26 (by kernel_rfl) HK81.out Tryz.underlying68 rfl (by kernel_rfl)) rfl ⟨A, c, B, d, rfl, HF77.out, HF78.out, hc, hcm, hd, hdm, HF76.out, HF79.out, HF80.out⟩
set_option maxRecDepth 100000 in
set_option maxHeartbeats 4000000 in
theorem connFrame_2 (r : RawD) (hr : RawOk r) (f : FrD) (ok : FrOk f) (hkd : f.kind = 2) (hf : ∀ w, Calls Tryz.prog 30 #[rawV r] w (FrOut w f)) (lo ex : Nat) (hlo : lo < 3) (hex : ex < 3) (HLO : Hid (r.b % 3 = (lo : Nat))) (HEX : Hid (r.a % 3 = (ex : Nat))) (w : World) :
    Calls Tryz.prog 26 #[rawV r] w (FrOut w (⟨2, f.id % 6, f.off, f.fin, f.code, [((lo : Nat), ((lo + ex : Nat) : Int))], f.data⟩ : FrD)) := by
  have HOK2 := Lib.hid (show FrOk (⟨2, f.id % 6, f.off, f.fin, f.code, [((lo : Nat), ((lo + ex : Nat) : Int))], f.data⟩ : FrD) from FrOk.ack2 ok hkd _ (Nat.mod_le _ _) lo ex hlo hex)
  obtain ⟨⟨_, _⟩, ⟨a0, a1⟩, ⟨b0, b1⟩, _⟩ := hr
  have hsum : IntKind.i64.wrap ((lo : Nat) + (ex : Nat)) = ((lo + ex : Nat) : Int) := by rw [IntKind.wrap_i64]; omega
  have CF := Lib.hid hf
  unfold rawV at CF ⊢
  have HB0 := Lib.hid (Below.refl w.heap.size w)
  have hid := ok.id
  have hoff := ok.off
  clear hf
  go_enter Tryz.func26, Tryz.ntmps26
  refine wp_seq_k ?_
  intro KC1 hKC1
  refine wp_regionW ?_
  refine wnew (some 1) 59 #[.int .i64 r.kind, .int .i64 r.a, .int .i64 r.b, .string r.text] (fun q => .pointer (some ⟨q, 0, none⟩)) (by kernel_rfl) (by kernel_rfl) (by kernel_rfl) ?_
  intro wz3 g2 hg2 hBg2 hbg2
  have hlg2 : w.heap.size ≤ g2 := by rw [← hg2]; exact HB0.out.size
  have HF4 := Lib.hid (HB0.out.trans (hbg2.mono HB0.out.size))
  have HKg2 := Lib.hid hBg2
  clear hBg2 hbg2
  refine wnew (some 2) 68 #[.int .i64 0, .int .i64 0, .int .i64 0, .bool false, .int .i64 0, .slice none 0 0, .slice none 0 0] (fun q => .pointer (some ⟨q, 0, none⟩)) (by kernel_rfl) (by kernel_rfl) (by kernel_rfl) ?_
  intro wz6 g5 hg5 hBg5 hbg5
  have hlg5 : w.heap.size ≤ g5 := by rw [← hg5]; exact HF4.out.size
  have HK7 := Lib.hid (HKg2.out.carry hbg5)
  clear HKg2
  have HF8 := Lib.hid (HF4.out.trans (hbg5.mono HF4.out.size))
  clear HF4
  have HKg5 := Lib.hid hBg5
  clear hBg5 hbg5
  refine wnil (hKC1 _ _ (?_))
  clear hKC1
  refine wp_seq_k ?_
  intro KC9 hKC9
  refine wp_regionW ?_
  refine wloadR (some 5) (by kernel_rfl) (by kernel_rfl) 59 (.tmp 1) (by kernel_rfl) g2 0 (by kernel_rfl) #[.int .i64 r.kind, .int .i64 r.a, .int .i64 r.b, .string r.text] _ Tryz.underlying59 rfl (by kernel_rfl) HK7.out.whole ?_
  have hlt_g2 := HK7.out.lt
  have hlt_g5 := HKg5.out.lt
  have hszw := HF8.out.size
  refine wcall (some 6) 30 #[.agg #[.int .i64 r.kind, .int .i64 r.a, .int .i64 r.b, .string r.text]] (by kernel_rfl) (by kernel_rfl) (by kernel_rfl) ?_
  refine (CF.out _).mono ?_
  rintro e wz10 ⟨A, c, B, d, rfl, hA, hB, hc, hcm, hd, hdm, hbc, hiA, hiB⟩
  have HA := Lib.hid hA
  have HBt := Lib.hid hB
  have HIA := Lib.hid hiA
  have HIB := Lib.hid hiB
  have HFA := Lib.hid (hiA.step hszw)
  have HFB := Lib.hid (hiB.step hszw)
  clear hA hB hiA hiB
  unfold frcells
  rw [hkd]
  refine ⟨_, rfl, ?_⟩
  have HK11 := Lib.hid (HK7.out.carry hbc)
  clear HK7
  have HK12 := Lib.hid (HKg5.out.carry hbc)
  clear HKg5
  have HF13 := Lib.hid (HF8.out.trans (hbc.mono HF8.out.size))
  clear HF8
  clear hbc
  refine wnew (some 3) 68 #[.int .i64 0, .int .i64 0, .int .i64 0, .bool false, .int .i64 0, .slice none 0 0, .slice none 0 0] (fun q => .pointer (some ⟨q, 0, none⟩)) (by kernel_rfl) (by kernel_rfl) (by kernel_rfl) ?_
  intro wz15 g14 hg14 hBg14 hbg14
  have hneg5g14 : g5 ≠ g14 := by have := HK12.out.lt; omega
  have hlg14 : w.heap.size ≤ g14 := by rw [← hg14]; exact HF13.out.size
  have HK16 := Lib.hid (HK11.out.carry hbg14)
  clear HK11
  have HK17 := Lib.hid (HK12.out.carry hbg14)
  clear HK12
  have HF18 := Lib.hid (HF13.out.trans (hbg14.mono HF13.out.size))
  clear HF13
  have HF19 := Lib.hid (RdX.below HA.out hbg14)
  have HF20 := Lib.hid (HBt.out.below hbg14)
  have HF21 := Lib.hid (HFA.out.on hbg14.size)
  clear HFA
  have HF22 := Lib.hid (HFB.out.on hbg14.size)
  clear HFB
  have HKg14 := Lib.hid hBg14
  clear hBg14 hbg14
  refine wstoreP (by kernel_rfl) (by kernel_rfl) 68 (.tmp 3) (.tmp 6) (by kernel_rfl) g14 0 (by kernel_rfl) #[.int .i64 (2 : Nat), .int .i64 (f.id : Nat), .int .i64 (f.off : Nat), .bool f.fin, .int .i64 (f.code : Nat), .slice A f.rngs.length c, .slice B f.data.length d] (by kernel_rfl) 68 #[.int .i64 0, .int .i64 0, .int .i64 0, .bool false, .int .i64 0, .slice none 0 0, .slice none 0 0] HKg14.out (by kernel_rfl) (Nat.le_of_eq (by kernel_rfl)) (all_one (by kernel_rfl)) #[.int .i64 (2 : Nat), .int .i64 (f.id : Nat), .int .i64 (f.off : Nat), .bool f.fin, .int .i64 (f.code : Nat), .slice A f.rngs.length c, .slice B f.data.length d] (splice_all _ _ (by kernel_rfl)) ?_
  intro wz23 hBwz23 hwwz23
  have HK24 := Lib.hid (HK16.out.wr hwwz23 (Blk.neq HK16.out HKg14.out (by decide)))
  clear HK16
  have HK25 := Lib.hid (HK17.out.wr hwwz23 hneg5g14)
  clear HK17
  have HF26 := Lib.hid (hwwz23.trans_below HF18.out hlg14)
  clear HF18
  have HF27 := Lib.hid (Rd.wr HF19.out hwwz23 (fun a ha => by have h1 := (HIA.out a ha).1; have h2 := (HIA.out a ha).2; omega))
  clear HF19
  have HF28 := Lib.hid (Rd.wr HF20.out hwwz23 (fun a ha => by have h1 := (HIB.out a ha).1; have h2 := (HIB.out a ha).2; omega))
  clear HF20
  have HF29 := Lib.hid (HF21.out.on (Nat.le_of_eq hwwz23.size.symm))
  clear HF21
  have HF30 := Lib.hid (HF22.out.on (Nat.le_of_eq hwwz23.size.symm))
  clear HF22
  have HK31 := Lib.hid hBwz23
  clear HKg14
  refine wnil (hKC9 _ _ (?_))
  clear hKC9
  refine wp_seq_k ?_
  intro KC32 hKC32
  refine wp_regionW ?_
  refine wval (some 7) (.pointer (some ⟨g14, 1, none⟩)) wz23 (by kernel_rfl) (by kernel_rfl) (by kernel_rfl) ?_
  refine wload (some 8) (.int .i64 (f.id : Nat)) 3 (.tmp 7) g14 1 _ (by kernel_rfl) (by kernel_rfl) (by kernel_rfl) (by kernel_rfl) Tryz.underlying3 rfl (by rw [HK31.out.cell]; kernel_rfl) ?_
  refine wcall (some 9) 15 #[.int .i64 (f.id : Nat), .int .i64 6] (by kernel_rfl) (by kernel_rfl) (by kernel_rfl) ?_
  refine (picked_at _ 6 _ (by omega) (by omega) (by decide) (by decide) (modc f.id 6) _).mono ?_
  rintro e wz33 ⟨rfl, rfl⟩
  refine ⟨_, rfl, ?_⟩
  refine wval (some 10) (.pointer (some ⟨g14, 1, none⟩)) wz23 (by kernel_rfl) (by kernel_rfl) (by kernel_rfl) ?_
  refine wstore1 (by kernel_rfl) (by kernel_rfl) 3 (.tmp 10) (.tmp 9) (by kernel_rfl) g14 1 (by kernel_rfl) (.int .i64 ((f.id % 6 : Nat) : Int)) (by kernel_rfl) (by kernel_rfl) (by kernel_rfl) 68 #[.int .i64 (2 : Nat), .int .i64 (f.id : Nat), .int .i64 (f.off : Nat), .bool f.fin, .int .i64 (f.code : Nat), .slice A f.rngs.length c, .slice B f.data.length d] HK31.out (by kernel_rfl) (Nat.lt_of_lt_of_eq (show 1 < 7 by decide) (by kernel_rfl)) #[.int .i64 (2 : Nat), .int .i64 ((f.id % 6 : Nat) : Int), .int .i64 (f.off : Nat), .bool f.fin, .int .i64 (f.code : Nat), .slice A f.rngs.length c, .slice B f.data.length d] (by kernel_rfl) ?_
  intro wz34 hBwz34 hwwz34
  have HK35 := Lib.hid (HK24.out.wr hwwz34 (Blk.neq HK24.out HK31.out (by decide)))
  clear HK24
  have HK36 := Lib.hid (HK25.out.wr hwwz34 hneg5g14)
  clear HK25
  have HF37 := Lib.hid (hwwz34.trans_below HF26.out hlg14)
  clear HF26
  have HF38 := Lib.hid (Rd.wr HF27.out hwwz34 (fun a ha => by have h1 := (HIA.out a ha).1; have h2 := (HIA.out a ha).2; omega))
  clear HF27
  have HF39 := Lib.hid (Rd.wr HF28.out hwwz34 (fun a ha => by have h1 := (HIB.out a ha).1; have h2 := (HIB.out a ha).2; omega))
  clear HF28
  have HF40 := Lib.hid (HF29.out.on (Nat.le_of_eq hwwz34.size.symm))
  clear HF29
  have HF41 := Lib.hid (HF30.out.on (Nat.le_of_eq hwwz34.size.symm))
  clear HF30
  have HK42 := Lib.hid hBwz34
  clear HK31
  refine wnil (hKC32 _ _ (?_))
  clear hKC32
  refine wp_seq_k ?_
  intro KC43 hKC43
  refine wp_seq_k ?_
  intro KC44 hKC44
  refine wp_regionW ?_
  refine wval (some 11) (.pointer (some ⟨g14, 0, none⟩)) wz34 (by kernel_rfl) (by kernel_rfl) (by kernel_rfl) ?_
  refine wload (some 12) (.int .i64 (2 : Nat)) 3 (.tmp 11) g14 0 _ (by kernel_rfl) (by kernel_rfl) (by kernel_rfl) (by kernel_rfl) Tryz.underlying3 rfl (by rw [HK42.out.cell]; kernel_rfl) ?_
  refine wnil (hKC44 _ _ (?_))
  clear hKC44
  refine wp_block ?_
  refine wp_seq_k ?_
  intro KC45 hKC45
  refine wp_seq_k ?_
  intro KC46 hKC46
  refine wp_regionW ?_
  refine wval (some 14) (.bool false) wz34 (by kernel_rfl) (by kernel_rfl) (by kernel_rfl) ?_
  refine wval (some 13) (.bool false) wz34 (by kernel_rfl) (by kernel_rfl) (by kernel_rfl) ?_
  refine wnil (hKC46 _ _ (?_))
  clear hKC46
  refine wp_cond_false (by kernel_rfl) ?_
  refine wp_seq_k ?_
  intro KC47 hKC47
  refine wp_regionW ?_
  refine wval (some 15) (.bool false) wz34 (by kernel_rfl) (by kernel_rfl) (by kernel_rfl) ?_
  refine wval (some 13) (.bool false) wz34 (by kernel_rfl) (by kernel_rfl) (by kernel_rfl) ?_
  refine wnil (hKC47 _ _ (?_))
  clear hKC47
  refine wp_cond_false (by kernel_rfl) ?_
  refine wp_seq_k ?_
  intro KC48 hKC48
  refine wp_regionW ?_
  refine wval (some 16) (.bool false) wz34 (by kernel_rfl) (by kernel_rfl) (by kernel_rfl) ?_
  refine wval (some 13) (.bool false) wz34 (by kernel_rfl) (by kernel_rfl) (by kernel_rfl) ?_
  refine wnil (hKC48 _ _ (?_))
  clear hKC48
  refine wp_cond_false (by kernel_rfl) ?_
  refine wp_regionW ?_
  refine wval (some 17) (.bool false) wz34 (by kernel_rfl) (by kernel_rfl) (by kernel_rfl) ?_
  refine wval (some 13) (.bool false) wz34 (by kernel_rfl) (by kernel_rfl) (by kernel_rfl) ?_
  refine wnil (hKC45 _ _ (?_))
  clear hKC45
  refine wp_cond_false (by kernel_rfl) ?_
  refine wp_seq_k ?_
  intro KC49 hKC49
  refine wp_regionW ?_
  refine wval (some 23) (.bool false) wz34 (by kernel_rfl) (by kernel_rfl) (by kernel_rfl) ?_
  refine wval (some 22) (.bool false) wz34 (by kernel_rfl) (by kernel_rfl) (by kernel_rfl) ?_
  refine wnil (hKC49 _ _ (?_))
  clear hKC49
  refine wp_cond_false (by kernel_rfl) ?_
  refine wp_seq_k ?_
  intro KC50 hKC50
  refine wp_regionW ?_
  refine wval (some 29) (.bool true) wz34 (by kernel_rfl) (by kernel_rfl) (by kernel_rfl) ?_
  refine wval (some 28) (.bool true) wz34 (by kernel_rfl) (by kernel_rfl) (by kernel_rfl) ?_
  refine wnil (hKC50 _ _ (?_))
  clear hKC50
  refine wp_cond_true (by kernel_rfl) ?_
  refine wp_flow (fun k => decide (k < 13)) (fun k => k == 2 || k == 5 || k == 8 || k == 11) 49 [0, 1, 2, 3, 4, 5, 6, 7, 8, 9, 10, 11, 12] (fun w' => Below wz34.heap.size wz34 w') (fun k a v w' => (k = 2 → v = .int .i64 (lo : Nat)) ∧ (k = 5 → v = .int .i64 (lo : Nat)) ∧ (k = 8 → v = .int .i64 (ex : Nat)) ∧ (k = 11 → ∃ g, v = .slice (some ⟨g, 0, none⟩) 1 1 ∧ wz34.heap.size ≤ g ∧ Blk w' g 116 #[.int .i64 (lo : Nat), .int .i64 ((lo + ex : Nat) : Int)])) (by kernel_rfl) ?hflB ?hpuB ?hksB (fun _ _ _ _ _ h => h) (by kernel_rfl) ?hst ?hC ?_
  case hflB => kernel_rfl
  case hpuB => kernel_rfl
  case hksB => kernel_rfl
  case hst => exact ⟨fun w0 w1 h1 hb => h1.trans (hb.mono h1.size), fun k a v w0 w1 hW hb => ⟨fun e => (fun hp => hp) (hW.1 e), fun e => (fun hp => hp) (hW.2.1 e), fun e => (fun hp => hp) (hW.2.2.1 e), fun e => (fun hp => by obtain ⟨g, e1, e0, e2⟩ := hp; exact ⟨g, e1, e0, e2.carry hb⟩) (hW.2.2.2 e)⟩, fun k a b v w0 _ h => h⟩
  case hC => exact (Below.refl _ _).drew
  refine fq 30 (.pointer (some ⟨g2, 2, none⟩)) (by kernel_rfl) (by kernel_rfl) (by kernel_rfl) (by kernel_rfl) (fun w => (by kernel_rfl)) ?_
  refine fq1 31 (.int .i64 r.b) 3 (.tmp 30) g2 2 _ (by kernel_rfl) (by kernel_rfl) (by kernel_rfl) (by kernel_rfl) (by kernel_rfl) (by kernel_rfl) Tryz.underlying3 rfl (fun w hw => by rw [(HK35.out.carry hw.1).cell]; kernel_rfl) ?_
  refine fcall 32 15 #[.int .i64 r.b, .int .i64 3] (by kernel_rfl) (by kernel_rfl) (by kernel_rfl) (by kernel_rfl) (fun w => (by kernel_rfl)) (fun w hw => (picked_at r.b 3 lo b0 b1 (by decide) (by decide) HLO w).mono ?hx2_32) ?_
  case hx2_32 =>
    rintro e w' ⟨rfl, rfl⟩
    exact ⟨_, rfl, ⟨fun _ => rfl, fun e => absurd e (by decide), fun e => absurd e (by decide), fun e => absurd e (by decide)⟩, hw.1, Below.refl _ _⟩
  rintro v ⟨w', hw', hW⟩
  obtain rfl := hW.1 rfl
  clear  hW hw' w'
  refine fq 33 (.pointer (some ⟨g2, 2, none⟩)) (by kernel_rfl) (by kernel_rfl) (by kernel_rfl) (by kernel_rfl) (fun w => (by kernel_rfl)) ?_
  refine fq1 34 (.int .i64 r.b) 3 (.tmp 33) g2 2 _ (by kernel_rfl) (by kernel_rfl) (by kernel_rfl) (by kernel_rfl) (by kernel_rfl) (by kernel_rfl) Tryz.underlying3 rfl (fun w hw => by rw [(HK35.out.carry hw.1).cell]; kernel_rfl) ?_
  refine fcall 35 15 #[.int .i64 r.b, .int .i64 3] (by kernel_rfl) (by kernel_rfl) (by kernel_rfl) (by kernel_rfl) (fun w => (by kernel_rfl)) (fun w hw => (picked_at r.b 3 lo b0 b1 (by decide) (by decide) HLO w).mono ?hx5_35) ?_
  case hx5_35 =>
    rintro e w' ⟨rfl, rfl⟩
    exact ⟨_, rfl, ⟨fun e => absurd e (by decide), fun _ => rfl, fun e => absurd e (by decide), fun e => absurd e (by decide)⟩, hw.1, Below.refl _ _⟩
  rintro v ⟨w', hw', hW⟩
  obtain rfl := hW.2.1 rfl
  clear  hW hw' w'
  refine fq 36 (.pointer (some ⟨g2, 1, none⟩)) (by kernel_rfl) (by kernel_rfl) (by kernel_rfl) (by kernel_rfl) (fun w => (by kernel_rfl)) ?_
  refine fq1 37 (.int .i64 r.a) 3 (.tmp 36) g2 1 _ (by kernel_rfl) (by kernel_rfl) (by kernel_rfl) (by kernel_rfl) (by kernel_rfl) (by kernel_rfl) Tryz.underlying3 rfl (fun w hw => by rw [(HK35.out.carry hw.1).cell]; kernel_rfl) ?_
  refine fcall 38 15 #[.int .i64 r.a, .int .i64 3] (by kernel_rfl) (by kernel_rfl) (by kernel_rfl) (by kernel_rfl) (fun w => (by kernel_rfl)) (fun w hw => (picked_at r.a 3 ex a0 a1 (by decide) (by decide) HEX w).mono ?hx8_38) ?_
  case hx8_38 =>
    rintro e w' ⟨rfl, rfl⟩
    exact ⟨_, rfl, ⟨fun e => absurd e (by decide), fun e => absurd e (by decide), fun _ => rfl, fun e => absurd e (by decide)⟩, hw.1, Below.refl _ _⟩
  rintro v ⟨w', hw', hW⟩
  obtain rfl := hW.2.2.1 rfl
  clear  hW hw' w'
  refine fqe 39 (.int .i64 (IntKind.i64.wrap ((lo : Nat) + (ex : Nat)))) (.int .i64 ((lo + ex : Nat) : Int)) (by rw [hsum]) (by kernel_rfl) (by kernel_rfl) (by kernel_rfl) (by kernel_rfl) (fun w => (by kernel_rfl)) ?_
  refine fq 40 (.agg #[.int .i64 (lo : Nat), .int .i64 ((lo + ex : Nat) : Int)]) (by kernel_rfl) (by kernel_rfl) (by kernel_rfl) (by kernel_rfl) (fun w => (by kernel_rfl)) ?_
  refine fnew 41 (fun w => .slice (some ⟨w.heap.size, 0, none⟩) 1 1) (fun w => w.alloc (.cells #[.int .i64 (lo : Nat), .int .i64 ((lo + ex : Nat) : Int)] 116)) (by kernel_rfl) (by kernel_rfl) (by kernel_rfl) (by kernel_rfl) (fun w => (by kernel_rfl)) (fun w hw => ⟨⟨fun e => absurd e (by decide), fun e => absurd e (by decide), fun e => absurd e (by decide), fun _ => ⟨w.heap.size, rfl, hw.1.size, Blk.new _ _ _⟩⟩, hw.1.alloc hw.1.size _, (Below.refl _ _).alloc (Nat.le_refl _) _⟩) ?_
  rintro v ⟨w', hw', hW⟩
  obtain ⟨g51, rfl, hlog51, h4⟩ := hW.2.2.2 rfl
  clear h4 hW hw' w'
  refine fq 42 (.pointer (some ⟨g14, 5, none⟩)) (by kernel_rfl) (by kernel_rfl) (by kernel_rfl) (by kernel_rfl) (fun w => (by kernel_rfl)) ?_
  refine fend [13] (by kernel_rfl) (by kernel_rfl) ?_
  intro wf52 hwwf52 hF
  obtain ⟨g_, e_, _, hNg51⟩ := (hF _ List.mem_cons_self).2.2.2 rfl
  obtain rfl : g51 = g_ := by injection e_ with e_; simpa using e_
  clear e_
  clear hF
  have hlg51 : w.heap.size ≤ g51 := Nat.le_trans HF37.out.size hlog51
  have HK53 := Lib.hid (HK35.out.carry hwwf52)
  clear HK35
  have HK54 := Lib.hid (HK36.out.carry hwwf52)
  clear HK36
  have HK55 := Lib.hid (HK42.out.carry hwwf52)
  clear HK42
  have HF56 := Lib.hid (HF37.out.trans (hwwf52.mono HF37.out.size))
  clear HF37
  have HF57 := Lib.hid (RdX.below HF38.out hwwf52)
  clear HF38
  have HF58 := Lib.hid (HF39.out.below hwwf52)
  clear HF39
  have HF59 := Lib.hid (HF40.out.on hwwf52.size)
  clear HF40
  have HF60 := Lib.hid (HF41.out.on hwwf52.size)
  clear HF41
  have HKg51 := Lib.hid hNg51
  clear hNg51
  refine tstore1 (by kernel_rfl) (by kernel_rfl) 32 (.tmp 42) (.tmp 41) (by kernel_rfl) g14 5 (by kernel_rfl) (.slice (some ⟨g51, 0, none⟩) 1 1) (by kernel_rfl) (by kernel_rfl) (by kernel_rfl) 68 #[.int .i64 (2 : Nat), .int .i64 ((f.id % 6 : Nat) : Int), .int .i64 (f.off : Nat), .bool f.fin, .int .i64 (f.code : Nat), .slice A f.rngs.length c, .slice B f.data.length d] HK55.out (by kernel_rfl) (Nat.lt_of_lt_of_eq (show 5 < 7 by decide) (by kernel_rfl)) ?_
  intro wz61 hBwz61 hwwz61
  have hBwz61 : Blk wz61 g14 68 #[.int .i64 (2 : Nat), .int .i64 ((f.id % 6 : Nat) : Int), .int .i64 (f.off : Nat), .bool f.fin, .int .i64 (f.code : Nat), .slice (some ⟨g51, 0, none⟩) 1 1, .slice B f.data.length d] := hBwz61.as (by kernel_rfl)
  have HK62 := Lib.hid (HK53.out.wr hwwz61 (Blk.neq HK53.out HK55.out (by decide)))
  clear HK53
  have HK63 := Lib.hid (HK54.out.wr hwwz61 hneg5g14)
  clear HK54
  have HK64 := Lib.hid (HKg51.out.wr hwwz61 (Blk.neq HKg51.out HK55.out (by decide)))
  clear HKg51
  have HF65 := Lib.hid (hwwz61.trans_below HF56.out hlg14)
  clear HF56
  have HF66 := Lib.hid (Rd.wr HF57.out hwwz61 (fun a ha => by have h1 := (HIA.out a ha).1; have h2 := (HIA.out a ha).2; omega))
  clear HF57
  have HF67 := Lib.hid (Rd.wr HF58.out hwwz61 (fun a ha => by have h1 := (HIB.out a ha).1; have h2 := (HIB.out a ha).2; omega))
  clear HF58
  have HF68 := Lib.hid (HF59.out.on (Nat.le_of_eq hwwz61.size.symm))
  clear HF59
  have HF69 := Lib.hid (HF60.out.on (Nat.le_of_eq hwwz61.size.symm))
  clear HF60
  have HK70 := Lib.hid hBwz61
  clear HK55
  refine tend (hKC43 _ _ (?_))
  clear hKC43
  refine wp_seq_k ?_
  intro KC71 hKC71
  refine wp_seq_k ?_
  intro KC72 hKC72
  refine wp_regionW ?_
  refine wloadR (some 43) (by kernel_rfl) (by kernel_rfl) 68 (.tmp 3) (by kernel_rfl) g14 0 (by kernel_rfl) #[.int .i64 (2 : Nat), .int .i64 ((f.id % 6 : Nat) : Int), .int .i64 (f.off : Nat), .bool f.fin, .int .i64 (f.code : Nat), .slice (some ⟨g51, 0, none⟩) 1 1, .slice B f.data.length d] _ Tryz.underlying68 rfl (by kernel_rfl) HK70.out.whole ?_
  refine wcall (some 44) 57 #[.agg #[.int .i64 (2 : Nat), .int .i64 ((f.id % 6 : Nat) : Int), .int .i64 (f.off : Nat), .bool f.fin, .int .i64 (f.code : Nat), .slice (some ⟨g51, 0, none⟩) 1 1, .slice B f.data.length d]] (by kernel_rfl) (by kernel_rfl) (by kernel_rfl) ?_
  refine (fCheck_ok (⟨2, f.id % 6, f.off, f.fin, f.code, [((lo : Nat), ((lo + ex : Nat) : Int))], f.data⟩ : FrD) HOK2.out (some ⟨g51, 0, none⟩) 1 B d _ (Blk.rd1r HK64.out) (Nat.le_refl 1) (by decide)).mono ?_
  rintro e wz73 ⟨rfl, hbc⟩
  refine ⟨_, rfl, ?_⟩
  have HK74 := Lib.hid (HK62.out.carry hbc)
  clear HK62
  have HK75 := Lib.hid (HK63.out.carry hbc)
  clear HK63
  have HK76 := Lib.hid (HK70.out.carry hbc)
  clear HK70
  have HK77 := Lib.hid (HK64.out.carry hbc)
  clear HK64
  have HF78 := Lib.hid (HF65.out.trans (hbc.mono HF65.out.size))
  clear HF65
  have HF79 := Lib.hid (RdX.below HF66.out hbc)
  clear HF66
  have HF80 := Lib.hid (HF67.out.below hbc)
  clear HF67
  have HF81 := Lib.hid (HF68.out.on hbc.size)
  clear HF68
  have HF82 := Lib.hid (HF69.out.on hbc.size)
  clear HF69
  clear hbc
  refine wval (some 4) (.int .i64 0) wz73 (by kernel_rfl) (by kernel_rfl) (by kernel_rfl) ?_
  refine wnil (hKC72 _ _ (?_))
  clear hKC72
  refine wp_seq_k ?_
  intro KC83 hKC83
  refine wp_regionW ?_
  refine wval (some 45) (.int .i64 0) wz73 (by kernel_rfl) (by kernel_rfl) (by kernel_rfl) ?_
  refine wval (some 46) (.bool false) wz73 (by kernel_rfl) (by kernel_rfl) (by kernel_rfl) ?_
  refine wnil (hKC83 _ _ (?_))
  clear hKC83
  refine wp_cond_false (by kernel_rfl) ?_
  refine wp_skip (hKC71 _ _ (?_))
  clear hKC71
  refine wp_seq_k ?_
  intro KC84 hKC84
  refine wp_regionW ?_
  refine wloadR (some 48) (by kernel_rfl) (by kernel_rfl) 68 (.tmp 3) (by kernel_rfl) g14 0 (by kernel_rfl) #[.int .i64 (2 : Nat), .int .i64 ((f.id % 6 : Nat) : Int), .int .i64 (f.off : Nat), .bool f.fin, .int .i64 (f.code : Nat), .slice (some ⟨g51, 0, none⟩) 1 1, .slice B f.data.length d] _ Tryz.underlying68 rfl (by kernel_rfl) HK76.out.whole ?_
  refine wstoreP (by kernel_rfl) (by kernel_rfl) 68 (.tmp 2) (.tmp 48) (by kernel_rfl) g5 0 (by kernel_rfl) #[.int .i64 (2 : Nat), .int .i64 ((f.id % 6 : Nat) : Int), .int .i64 (f.off : Nat), .bool f.fin, .int .i64 (f.code : Nat), .slice (some ⟨g51, 0, none⟩) 1 1, .slice B f.data.length d] (by kernel_rfl) 68 #[.int .i64 0, .int .i64 0, .int .i64 0, .bool false, .int .i64 0, .slice none 0 0, .slice none 0 0] HK75.out (by kernel_rfl) (Nat.le_of_eq (by kernel_rfl)) (all_one (by kernel_rfl)) #[.int .i64 (2 : Nat), .int .i64 ((f.id % 6 : Nat) : Int), .int .i64 (f.off : Nat), .bool f.fin, .int .i64 (f.code : Nat), .slice (some ⟨g51, 0, none⟩) 1 1, .slice B f.data.length d] (splice_all _ _ (by kernel_rfl)) ?_
  intro wz85 hBwz85 hwwz85
  have HK86 := Lib.hid (HK74.out.wr hwwz85 (Blk.neq HK74.out HK75.out (by decide)))
  clear HK74
  have HK87 := Lib.hid (HK76.out.wr hwwz85 (Ne.symm hneg5g14))
  clear HK76
  have HK88 := Lib.hid (HK77.out.wr hwwz85 (Blk.neq HK77.out HK75.out (by decide)))
  clear HK77
  have HF89 := Lib.hid (hwwz85.trans_below HF78.out hlg5)
  clear HF78
  have HF90 := Lib.hid (Rd.wr HF79.out hwwz85 (fun a ha => by have h1 := (HIA.out a ha).1; have h2 := (HIA.out a ha).2; omega))
  clear HF79
  have HF91 := Lib.hid (Rd.wr HF80.out hwwz85 (fun a ha => by have h1 := (HIB.out a ha).1; have h2 := (HIB.out a ha).2; omega))
  clear HF80
  have HF92 := Lib.hid (HF81.out.on (Nat.le_of_eq hwwz85.size.symm))
  clear HF81
  have HF93 := Lib.hid (HF82.out.on (Nat.le_of_eq hwwz85.size.symm))
  clear HF82
  have HK94 := Lib.hid hBwz85
  clear HK75
  refine wnil (hKC84 _ _ (?_))
  clear hKC84
  refine wp_ret ?_
  refine bodyPost_ret (results_c1 _ _ g5 _ #[.int .i64 (2 : Nat), .int .i64 ((f.id % 6 : Nat) : Int), .int .i64 (f.off : Nat), .bool f.fin, .int .i64 (f.code : Nat), .slice (some ⟨g51, 0, none⟩) 1 1, .slice B f.data.length d] _ Tryz.results26 (by kernel_rfl) HK94.out Tryz.underlying68 rfl (by kernel_rfl)) rfl ⟨some ⟨g51, 0, none⟩, 1, B, d, rfl, Blk.rd1r HK88.out, HF91.out, Nat.le_refl 1, by decide, hd, hdm, HF89.out, frIn_some hlg51 HK88.out.lt, HF93.out⟩
set_option maxRecDepth 100000 in
set_option maxHeartbeats 4000000 in
theorem connFrame_o (r : RawD) (hr : RawOk r) (f : FrD) (ok : FrOk f) (n8 : f.kind ≠ 8) (n4 : f.kind ≠ 4) (n17 : f.kind ≠ 17) (n16 : f.kind ≠ 16) (n18 : f.kind ≠ 18) (n2 : f.kind ≠ 2) (hf : ∀ w, Calls Tryz.prog 30 #[rawV r] w (FrOut w f)) (w : World) :
    Calls Tryz.prog 26 #[rawV r] w (FrOut w (⟨f.kind, f.id % 6, f.off, f.fin, f.code, f.rngs, f.data⟩ : FrD)) := by
  have HOK2 := Lib.hid (show FrOk (⟨f.kind, f.id % 6, f.off, f.fin, f.code, f.rngs, f.data⟩ : FrD) from FrOk.less ok rfl _ _ (Nat.mod_le _ _) (Nat.le_refl _))
  obtain ⟨⟨_, _⟩, ⟨a0, a1⟩, ⟨b0, b1⟩, _⟩ := hr
  skip
  have CF := Lib.hid hf
  unfold rawV at CF ⊢
  have HB0 := Lib.hid (Below.refl w.heap.size w)
  have hid := ok.id
  have hoff := ok.off
  clear hf
  go_enter Tryz.func26, Tryz.ntmps26
  refine wp_seq_k ?_
  intro KC1 hKC1
  refine wp_regionW ?_
  refine wnew (some 1) 59 #[.int .i64 r.kind, .int .i64 r.a, .int .i64 r.b, .string r.text] (fun q => .pointer (some ⟨q, 0, none⟩)) (by kernel_rfl) (by kernel_rfl) (by kernel_rfl) ?_
  intro wz3 g2 hg2 hBg2 hbg2
  have hlg2 : w.heap.size ≤ g2 := by rw [← hg2]; exact HB0.out.size
  have HF4 := Lib.hid (HB0.out.trans (hbg2.mono HB0.out.size))
  have HKg2 := Lib.hid hBg2
  clear hBg2 hbg2
  refine wnew (some 2) 68 #[.int .i64 0, .int .i64 0, .int .i64 0, .bool false, .int .i64 0, .slice none 0 0, .slice none 0 0] (fun q => .pointer (some ⟨q, 0, none⟩)) (by kernel_rfl) (by kernel_rfl) (by kernel_rfl) ?_
  intro wz6 g5 hg5 hBg5 hbg5
  have hlg5 : w.heap.size ≤ g5 := by rw [← hg5]; exact HF4.out.size
  have HK7 := Lib.hid (HKg2.out.carry hbg5)
  clear HKg2
  have HF8 := Lib.hid (HF4.out.trans (hbg5.mono HF4.out.size))
  clear HF4
  have HKg5 := Lib.hid hBg5
  clear hBg5 hbg5
  refine wnil (hKC1 _ _ (?_))
  clear hKC1
  refine wp_seq_k ?_
  intro KC9 hKC9
  refine wp_regionW ?_
  refine wloadR (some 5) (by kernel_rfl) (by kernel_rfl) 59 (.tmp 1) (by kernel_rfl) g2 0 (by kernel_rfl) #[.int .i64 r.kind, .int .i64 r.a, .int .i64 r.b, .string r.text] _ Tryz.underlying59 rfl (by kernel_rfl) HK7.out.whole ?_
  have hlt_g2 := HK7.out.lt
  have hlt_g5 := HKg5.out.lt
  have hszw := HF8.out.size
  refine wcall (some 6) 30 #[.agg #[.int .i64 r.kind, .int .i64 r.a, .int .i64 r.b, .string r.text]] (by kernel_rfl) (by kernel_rfl) (by kernel_rfl) ?_
  refine (CF.out _).mono ?_
  rintro e wz10 ⟨A, c, B, d, rfl, hA, hB, hc, hcm, hd, hdm, hbc, hiA, hiB⟩
  have HA := Lib.hid hA
  have HBt := Lib.hid hB
  have HIA := Lib.hid hiA
  have HIB := Lib.hid hiB
  have HFA := Lib.hid (hiA.step hszw)
  have HFB := Lib.hid (hiB.step hszw)
  clear hA hB hiA hiB
  refine ⟨_, rfl, ?_⟩
  have HK11 := Lib.hid (HK7.out.carry hbc)
  clear HK7
  have HK12 := Lib.hid (HKg5.out.carry hbc)
  clear HKg5
  have HF13 := Lib.hid (HF8.out.trans (hbc.mono HF8.out.size))
  clear HF8
  clear hbc
  refine wnew (some 3) 68 #[.int .i64 0, .int .i64 0, .int .i64 0, .bool false, .int .i64 0, .slice none 0 0, .slice none 0 0] (fun q => .pointer (some ⟨q, 0, none⟩)) (by kernel_rfl) (by kernel_rfl) (by kernel_rfl) ?_
  intro wz15 g14 hg14 hBg14 hbg14
  have hneg5g14 : g5 ≠ g14 := by have := HK12.out.lt; omega
  have hlg14 : w.heap.size ≤ g14 := by rw [← hg14]; exact HF13.out.size
  have HK16 := Lib.hid (HK11.out.carry hbg14)
  clear HK11
  have HK17 := Lib.hid (HK12.out.carry hbg14)
  clear HK12
  have HF18 := Lib.hid (HF13.out.trans (hbg14.mono HF13.out.size))
  clear HF13
  have HF19 := Lib.hid (RdX.below HA.out hbg14)
  have HF20 := Lib.hid (HBt.out.below hbg14)
  have HF21 := Lib.hid (HFA.out.on hbg14.size)
  clear HFA
  have HF22 := Lib.hid (HFB.out.on hbg14.size)
  clear HFB
  have HKg14 := Lib.hid hBg14
  clear hBg14 hbg14
  refine wstoreP (by kernel_rfl) (by kernel_rfl) 68 (.tmp 3) (.tmp 6) (by kernel_rfl) g14 0 (by kernel_rfl) #[.int .i64 (f.kind : Nat), .int .i64 (f.id : Nat), .int .i64 (f.off : Nat), .bool f.fin, .int .i64 (f.code : Nat), .slice A f.rngs.length c, .slice B f.data.length d] (by kernel_rfl) 68 #[.int .i64 0, .int .i64 0, .int .i64 0, .bool false, .int .i64 0, .slice none 0 0, .slice none 0 0] HKg14.out (by kernel_rfl) (Nat.le_of_eq (by kernel_rfl)) (all_one (by kernel_rfl)) #[.int .i64 (f.kind : Nat), .int .i64 (f.id : Nat), .int .i64 (f.off : Nat), .bool f.fin, .int .i64 (f.code : Nat), .slice A f.rngs.length c, .slice B f.data.length d] (splice_all _ _ (by kernel_rfl)) ?_
  intro wz23 hBwz23 hwwz23
  have HK24 := Lib.hid (HK16.out.wr hwwz23 (Blk.neq HK16.out HKg14.out (by decide)))
  clear HK16
  have HK25 := Lib.hid (HK17.out.wr hwwz23 hneg5g14)
  clear HK17
  have HF26 := Lib.hid (hwwz23.trans_below HF18.out hlg14)
  clear HF18
  have HF27 := Lib.hid (Rd.wr HF19.out hwwz23 (fun a ha => by have h1 := (HIA.out a ha).1; have h2 := (HIA.out a ha).2; omega))
  clear HF19
  have HF28 := Lib.hid (Rd.wr HF20.out hwwz23 (fun a ha => by have h1 := (HIB.out a ha).1; have h2 := (HIB.out a ha).2; omega))
  clear HF20
  have HF29 := Lib.hid (HF21.out.on (Nat.le_of_eq hwwz23.size.symm))
  clear HF21
  have HF30 := Lib.hid (HF22.out.on (Nat.le_of_eq hwwz23.size.symm))
  clear HF22
  have HK31 := Lib.hid hBwz23
  clear HKg14
  refine wnil (hKC9 _ _ (?_))
  clear hKC9
  refine wp_seq_k ?_
  intro KC32 hKC32
  refine wp_regionW ?_
  refine wval (some 7) (.pointer (some ⟨g14, 1, none⟩)) wz23 (by kernel_rfl) (by kernel_rfl) (by kernel_rfl) ?_
  refine wload (some 8) (.int .i64 (f.id : Nat)) 3 (.tmp 7) g14 1 _ (by kernel_rfl) (by kernel_rfl) (by kernel_rfl) (by kernel_rfl) Tryz.underlying3 rfl (by rw [HK31.out.cell]; kernel_rfl) ?_
  refine wcall (some 9) 15 #[.int .i64 (f.id : Nat), .int .i64 6] (by kernel_rfl) (by kernel_rfl) (by kernel_rfl) ?_
  refine (picked_at _ 6 _ (by omega) (by omega) (by decide) (by decide) (modc f.id 6) _).mono ?_
  rintro e wz33 ⟨rfl, rfl⟩
  refine ⟨_, rfl, ?_⟩
  refine wval (some 10) (.pointer (some ⟨g14, 1, none⟩)) wz23 (by kernel_rfl) (by kernel_rfl) (by kernel_rfl) ?_
  refine wstore1 (by kernel_rfl) (by kernel_rfl) 3 (.tmp 10) (.tmp 9) (by kernel_rfl) g14 1 (by kernel_rfl) (.int .i64 ((f.id % 6 : Nat) : Int)) (by kernel_rfl) (by kernel_rfl) (by kernel_rfl) 68 #[.int .i64 (f.kind : Nat), .int .i64 (f.id : Nat), .int .i64 (f.off : Nat), .bool f.fin, .int .i64 (f.code : Nat), .slice A f.rngs.length c, .slice B f.data.length d] HK31.out (by kernel_rfl) (Nat.lt_of_lt_of_eq (show 1 < 7 by decide) (by kernel_rfl)) #[.int .i64 (f.kind : Nat), .int .i64 ((f.id % 6 : Nat) : Int), .int .i64 (f.off : Nat), .bool f.fin, .int .i64 (f.code : Nat), .slice A f.rngs.length c, .slice B f.data.length d] (by kernel_rfl) ?_
  intro wz34 hBwz34 hwwz34
  have HK35 := Lib.hid (HK24.out.wr hwwz34 (Blk.neq HK24.out HK31.out (by decide)))
  clear HK24
  have HK36 := Lib.hid (HK25.out.wr hwwz34 hneg5g14)
  clear HK25
  have HF37 := Lib.hid (hwwz34.trans_below HF26.out hlg14)
  clear HF26
  have HF38 := Lib.hid (Rd.wr HF27.out hwwz34 (fun a ha => by have h1 := (HIA.out a ha).1; have h2 := (HIA.out a ha).2; omega))
  clear HF27
  have HF39 := Lib.hid (Rd.wr HF28.out hwwz34 (fun a ha => by have h1 := (HIB.out a ha).1; have h2 := (HIB.out a ha).2; omega))
  clear HF28
  have HF40 := Lib.hid (HF29.out.on (Nat.le_of_eq hwwz34.size.symm))
  clear HF29
  have HF41 := Lib.hid (HF30.out.on (Nat.le_of_eq hwwz34.size.symm))
  clear HF30
  have HK42 := Lib.hid hBwz34
  clear HK31
  refine wnil (hKC32 _ _ (?_))
  clear hKC32
  refine wp_seq_k ?_
  intro KC43 hKC43
  refine wp_seq_k ?_
  intro KC44 hKC44
  refine wp_regionW ?_
  refine wval (some 11) (.pointer (some ⟨g14, 0, none⟩)) wz34 (by kernel_rfl) (by kernel_rfl) (by kernel_rfl) ?_
  refine wload (some 12) (.int .i64 (f.kind : Nat)) 3 (.tmp 11) g14 0 _ (by kernel_rfl) (by kernel_rfl) (by kernel_rfl) (by kernel_rfl) Tryz.underlying3 rfl (by rw [HK42.out.cell]; kernel_rfl) ?_
  refine wnil (hKC44 _ _ (?_))
  clear hKC44
  refine wp_block ?_
  refine wp_seq_k ?_
  intro KC45 hKC45
  refine wp_seq_k ?_
  intro KC46 hKC46
  refine wp_regionW ?_
  refine wvalE (some 14) (.bool (decide (((f.kind : Nat) : Int) = 8))) (.bool false) wz34 (by simp; omega) (by kernel_rfl) (by kernel_rfl) (by kernel_rfl) ?_
  refine wval (some 13) (.bool false) wz34 (by kernel_rfl) (by kernel_rfl) (by kernel_rfl) ?_
  refine wnil (hKC46 _ _ (?_))
  clear hKC46
  refine wp_cond_false (by kernel_rfl) ?_
  refine wp_seq_k ?_
  intro KC47 hKC47
  refine wp_regionW ?_
  refine wvalE (some 15) (.bool (decide (((f.kind : Nat) : Int) = 4))) (.bool false) wz34 (by simp; omega) (by kernel_rfl) (by kernel_rfl) (by kernel_rfl) ?_
  refine wval (some 13) (.bool false) wz34 (by kernel_rfl) (by kernel_rfl) (by kernel_rfl) ?_
  refine wnil (hKC47 _ _ (?_))
  clear hKC47
  refine wp_cond_false (by kernel_rfl) ?_
  refine wp_seq_k ?_
  intro KC48 hKC48
  refine wp_regionW ?_
  refine wvalE (some 16) (.bool (decide (((f.kind : Nat) : Int) = 17))) (.bool false) wz34 (by simp; omega) (by kernel_rfl) (by kernel_rfl) (by kernel_rfl) ?_
  refine wval (some 13) (.bool false) wz34 (by kernel_rfl) (by kernel_rfl) (by kernel_rfl) ?_
  refine wnil (hKC48 _ _ (?_))
  clear hKC48
  refine wp_cond_false (by kernel_rfl) ?_
  refine wp_regionW ?_
  refine wvalE (some 17) (.bool (decide (((f.kind : Nat) : Int) = 16))) (.bool false) wz34 (by simp; omega) (by kernel_rfl) (by kernel_rfl) (by kernel_rfl) ?_
  refine wval (some 13) (.bool false) wz34 (by kernel_rfl) (by kernel_rfl) (by kernel_rfl) ?_
  refine wnil (hKC45 _ _ (?_))
  clear hKC45
  refine wp_cond_false (by kernel_rfl) ?_
  refine wp_seq_k ?_
  intro KC49 hKC49
  refine wp_regionW ?_
  refine wvalE (some 23) (.bool (decide (((f.kind : Nat) : Int) = 18))) (.bool false) wz34 (by simp; omega) (by kernel_rfl) (by kernel_rfl) (by kernel_rfl) ?_
  refine wval (some 22) (.bool false) wz34 (by kernel_rfl) (by kernel_rfl) (by kernel_rfl) ?_
  refine wnil (hKC49 _ _ (?_))
  clear hKC49
  refine wp_cond_false (by kernel_rfl) ?_
  refine wp_seq_k ?_
  intro KC50 hKC50
  refine wp_regionW ?_
  refine wvalE (some 29) (.bool (decide (((f.kind : Nat) : Int) = 2))) (.bool false) wz34 (by simp; omega) (by kernel_rfl) (by kernel_rfl) (by kernel_rfl) ?_
  refine wval (some 28) (.bool false) wz34 (by kernel_rfl) (by kernel_rfl) (by kernel_rfl) ?_
  refine wnil (hKC50 _ _ (?_))
  clear hKC50
  refine wp_cond_false (by kernel_rfl) ?_
  refine wp_skip (hKC43 _ _ (?_))
  clear hKC43
  refine wp_seq_k ?_
  intro KC51 hKC51
  refine wp_seq_k ?_
  intro KC52 hKC52
  refine wp_regionW ?_
  refine wloadR (some 43) (by kernel_rfl) (by kernel_rfl) 68 (.tmp 3) (by kernel_rfl) g14 0 (by kernel_rfl) #[.int .i64 (f.kind : Nat), .int .i64 ((f.id % 6 : Nat) : Int), .int .i64 (f.off : Nat), .bool f.fin, .int .i64 (f.code : Nat), .slice A f.rngs.length c, .slice B f.data.length d] _ Tryz.underlying68 rfl (by kernel_rfl) HK42.out.whole ?_
  refine wcall (some 44) 57 #[.agg #[.int .i64 (f.kind : Nat), .int .i64 ((f.id % 6 : Nat) : Int), .int .i64 (f.off : Nat), .bool f.fin, .int .i64 (f.code : Nat), .slice A f.rngs.length c, .slice B f.data.length d]] (by kernel_rfl) (by kernel_rfl) (by kernel_rfl) ?_
  refine (fCheck_ok (⟨f.kind, f.id % 6, f.off, f.fin, f.code, f.rngs, f.data⟩ : FrD) HOK2.out A c B d _ HF38.out hc hcm).mono ?_
  rintro e wz53 ⟨rfl, hbc⟩
  refine ⟨_, rfl, ?_⟩
  have HK54 := Lib.hid (HK35.out.carry hbc)
  clear HK35
  have HK55 := Lib.hid (HK36.out.carry hbc)
  clear HK36
  have HK56 := Lib.hid (HK42.out.carry hbc)
  clear HK42
  have HF57 := Lib.hid (HF37.out.trans (hbc.mono HF37.out.size))
  clear HF37
  have HF58 := Lib.hid (RdX.below HF38.out hbc)
  clear HF38
  have HF59 := Lib.hid (HF39.out.below hbc)
  clear HF39
  have HF60 := Lib.hid (HF40.out.on hbc.size)
  clear HF40
  have HF61 := Lib.hid (HF41.out.on hbc.size)
  clear HF41
  clear hbc
  refine wval (some 4) (.int .i64 0) wz53 (by kernel_rfl) (by kernel_rfl) (by kernel_rfl) ?_
  refine wnil (hKC52 _ _ (?_))
  clear hKC52
  refine wp_seq_k ?_
  intro KC62 hKC62
  refine wp_regionW ?_
  refine wval (some 45) (.int .i64 0) wz53 (by kernel_rfl) (by kernel_rfl) (by kernel_rfl) ?_
  refine wval (some 46) (.bool false) wz53 (by kernel_rfl) (by kernel_rfl) (by kernel_rfl) ?_
  refine wnil (hKC62 _ _ (?_))
  clear hKC62
  refine wp_cond_false (by kernel_rfl) ?_
  refine wp_skip (hKC51 _ _ (?_))
  clear hKC51
  refine wp_seq_k ?_
  intro KC63 hKC63
  refine wp_regionW ?_
  refine wloadR (some 48) (by kernel_rfl) (by kernel_rfl) 68 (.tmp 3) (by kernel_rfl) g14 0 (by kernel_rfl) #[.int .i64 (f.kind : Nat), .int .i64 ((f.id % 6 : Nat) : Int), .int .i64 (f.off : Nat), .bool f.fin, .int .i64 (f.code : Nat), .slice A f.rngs.length c, .slice B f.data.length d] _ Tryz.underlying68 rfl (by kernel_rfl) HK56.out.whole ?_
  refine wstoreP (by kernel_rfl) (by kernel_rfl) 68 (.tmp 2) (.tmp 48) (by kernel_rfl) g5 0 (by kernel_rfl) #[.int .i64 (f.kind : Nat), .int .i64 ((f.id % 6 : Nat) : Int), .int .i64 (f.off : Nat), .bool f.fin, .int .i64 (f.code : Nat), .slice A f.rngs.length c, .slice B f.data.length d] (by kernel_rfl) 68 #[.int .i64 0, .int .i64 0, .int .i64 0, .bool false, .int .i64 0, .slice none 0 0, .slice none 0 0] HK55.out (by kernel_rfl) (Nat.le_of_eq (by kernel_rfl)) (all_one (by kernel_rfl)) #[.int .i64 (f.kind : Nat), .int .i64 ((f.id % 6 : Nat) : Int), .int .i64 (f.off : Nat), .bool f.fin, .int .i64 (f.code : Nat), .slice A f.rngs.length c, .slice B f.data.length d] (splice_all _ _ (by kernel_rfl)) ?_
  intro wz64 hBwz64 hwwz64
  have HK65 := Lib.hid (HK54.out.wr hwwz64 (Blk.neq HK54.out HK55.out (by decide)))
  clear HK54
  have HK66 := Lib.hid (HK56.out.wr hwwz64 (Ne.symm hneg5g14))
  clear HK56
  have HF67 := Lib.hid (hwwz64.trans_below HF57.out hlg5)
  clear HF57
  have HF68 := Lib.hid (Rd.wr HF58.out hwwz64 (fun a ha => by have h1 := (HIA.out a ha).1; have h2 := (HIA.out a ha).2; omega))
  clear HF58
  have HF69 := Lib.hid (Rd.wr HF59.out hwwz64 (fun a ha => by have h1 := (HIB.out a ha).1; have h2 := (HIB.out a ha).2; omega))
  clear HF59
  have HF70 := Lib.hid (HF60.out.on (Nat.le_of_eq hwwz64.size.symm))
  clear HF60
  have HF71 := Lib.hid (HF61.out.on (Nat.le_of_eq hwwz64.size.symm))
  clear HF61
  have HK72 := Lib.hid hBwz64
  clear HK55
  refine wnil (hKC63 _ _ (?_))
  clear hKC63
  refine wp_ret ?_
  refine bodyPost_ret (results_c1 _ _ g5 _ #[.int .i64 (f.kind : Nat), .int .i64 ((f.id % 6 : Nat) : Int), .int .i64 (f.off : Nat), .bool f.fin, .int .i64 (f.code : Nat), .slice A f.rngs.length c, .slice B f.data.length d] _ Tryz.results26 (by kernel_rfl) HK72.out Tryz.underlying68 rfl (by kernel_rfl)) rfl ⟨A, c, B, d, rfl, HF68.out, HF69.out, hc, hcm, hd, hdm, HF67.out, HF70.out, HF71.out⟩
/-- connFrame of whatever raw thing answers a frame that may be. -/
theorem connFrame_any (r : RawD) (hr : RawOk r) : ∃ f : FrD, FrOk f ∧ ∀ w, Calls Tryz.prog 26 #[rawV r] w (FrOut w f) := by
  obtain ⟨f, ok, hf⟩ := frameOf_any r hr
  have h1 := Nat.mod_le f.id 6
  have h2 := Nat.mod_le f.off 320
  by_cases k8 : f.kind = 8
  · exact ⟨_, ok.less k8 _ _ h1 h2, connFrame_8 r hr f ok k8 hf⟩
  by_cases k4 : f.kind = 4
  · exact ⟨_, ok.less k4 _ _ h1 h2, connFrame_4 r hr f ok k4 hf⟩
  by_cases k17 : f.kind = 17
  · exact ⟨_, ok.less k17 _ _ h1 h2, connFrame_17 r hr f ok k17 hf⟩
  by_cases k16 : f.kind = 16
  · exact ⟨_, ok.less k16 _ _ h1 h2, connFrame_16 r hr f ok k16 hf⟩
  by_cases k18 : f.kind = 18
  · exact ⟨_, ok.less k18 _ _ h1 (Nat.mod_le f.off 9), connFrame_18 r hr f ok k18 hf⟩
  by_cases k2 : f.kind = 2
  · obtain ⟨lo, HLO, hlo⟩ := mod_nat r.b 3 (by decide)
    obtain ⟨ex, HEX, hex⟩ := mod_nat r.a 3 (by decide)
    have hlo : lo < 3 := by omega
    have hex : ex < 3 := by omega
    exact ⟨_, FrOk.ack2 ok k2 _ h1 lo ex hlo hex, connFrame_2 r hr f ok k2 hf lo ex hlo hex HLO HEX⟩
  exact ⟨_, ok.less rfl _ _ h1 (Nat.le_refl _), connFrame_o r hr f ok k8 k4 k17 k16 k18 k2 hf⟩
end Go.Proofs.YtbcagdjfegobnaaGreat
