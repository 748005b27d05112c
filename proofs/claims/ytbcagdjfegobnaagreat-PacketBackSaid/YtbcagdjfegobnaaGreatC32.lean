/- Texts of the proof, laid together: FrameOfWalk PkShort SameFrs. -/
import Derived.Test.YtbcagdjfegobnaaGreatC09
import Derived.Test.YtbcagdjfegobnaaGreatC15
import Derived.Test.YtbcagdjfegobnaaGreatC31
import Derived.Test.YtbcagdjfegobnaaGreatC19
import Derived.Laws.IdiomStrings
import Derived.Test.YtbcagdjfegobnaaGreatC30
import Derived.Test.YtbcagdjfegobnaaGreatC12
/- The contract of frameOf. (Printed by gen_frameof.py.) -/
namespace Go.Proofs.YtbcagdjfegobnaaGreat
open Go.ChangeShapes Go.WideShapes Go.ChangeAt Go.RowKit
set_option linter.unusedVariables false

theorem bytes_rdF (w : World) (e : TypeId) (s : ByteArray) (cap : Nat) (fr : Nat × Nat) : RdB (w.drew.alloc (.cells (bytesRow s cap) e fr)) (some ⟨w.heap.size, 0, none⟩) (bts s) := by
  refine ⟨by simp [u8s], fun hn => ⟨w.heap.size, 0, rfl, fun j u hu => ?_⟩⟩
  have hj : j < s.data.size := by
    have := (List.getElem?_eq_some_iff.1 hu).1
    rw [u8s_length] at this; simpa [bts] using this
  have hb : (w.drew.alloc (.cells (bytesRow s cap) e fr)).heap[w.heap.size]? = some (.cells (bytesRow s cap) e fr) := heap_alloc_new w.drew _
  rw [cell_of_row _ w.heap.size _ _ e fr hb, Nat.zero_add, bytesRow_at s cap j hj]
  rw [u8s_get _ _ (by rw [bts_len]; exact hj)] at hu
  rw [← hu]
  simp only [bts, List.getD, Array.getElem?_toList, Array.getElem?_eq_getElem hj, Option.getD_some]
theorem beqF (q : Nat) : ((q : Int) == 0) = (q == 0) := by
  by_cases h : q = 0
  · subst h; rfl
  · have h1 : ((q : Int) == 0) = false := by simp [h]
    have h2 : (q == 0) = false := by simp [h]
    rw [h1, h2]
theorem bytes_rdF2 (w : World) (e : TypeId) (s : ByteArray) (cap : Nat) (fr : Nat × Nat) {H : Nat} (hH : w.heap.size = H) : RdB (w.alloc (.cells (bytesRow s cap) e fr)) (some ⟨H, 0, none⟩) (bts s) := by
  subst hH; exact bytes_rdF w e s cap fr
theorem mod_nat (n m : Int) (hm : 0 < m) : ∃ y : Nat, Hid (n % m = (y : Int)) ∧ (y : Int) < m := by
  obtain ⟨y, h, h0, h1⟩ := mod_ex n m hm
  exact ⟨y.toNat, by show _ = _; rw [h.out]; omega, by omega⟩
theorem Blk.factsFz {w : World} {g : Nat} {t : TypeId} {a b c d e f k : Value} (h : Blk w g t #[a, b, c, d, e, f, k]) : g < w.heap.size ∧ w.cell? ⟨g, 0, none⟩ = some a ∧ w.cell? ⟨g, 1, none⟩ = some b ∧ w.cell? ⟨g, 2, none⟩ = some c ∧ w.cell? ⟨g, 3, none⟩ = some d ∧ w.cell? ⟨g, 4, none⟩ = some e ∧ w.cell? ⟨g, 5, none⟩ = some f ∧ w.cell? ⟨g, 6, none⟩ = some k ∧
    w.frozen? ⟨g, 0, none⟩ = false ∧ w.frozen? ⟨g, 1, none⟩ = false ∧ w.frozen? ⟨g, 2, none⟩ = false ∧ w.frozen? ⟨g, 3, none⟩ = false ∧ w.frozen? ⟨g, 4, none⟩ = false ∧ w.frozen? ⟨g, 5, none⟩ = false ∧ w.frozen? ⟨g, 6, none⟩ = false :=
  ⟨h.lt, by rw [h.cell]; rfl, by rw [h.cell]; rfl, by rw [h.cell]; rfl, by rw [h.cell]; rfl, by rw [h.cell]; rfl, by rw [h.cell]; rfl, by rw [h.cell]; rfl, h.frozen 0, h.frozen 1, h.frozen 2, h.frozen 3, h.frozen 4, h.frozen 5, h.frozen 6⟩

theorem RdB.asF {w : World} {A : Option Addr} {n : Nat} {bs : List UInt8} (h : Rd w 1 A n (u8s bs)) (hn : bs.length = n) : RdB w A bs := by subst hn; exact h
/-- The ranges of an Ack. -/
def ofRngs (lo x y n : Nat) : List Rng := [((lo : Int) + 40, (lo : Int) + 50), ((lo : Int) + 20, (lo : Int) + 20 + x), ((lo : Int), (lo : Int) + y)].take (1 + n)
/-- The frame that is made of a raw thing. -/
def frOf (k a b q99 q2 q3 q18 q5 q50 : Nat) (ds : List UInt8) : FrD :=
  match k with
  | 0 => ⟨1, 0, 0, false, 0, [], []⟩
  | 1 => ⟨2, 0, 0, false, 0, ofRngs q50 q18 q5 q3, []⟩
  | 2 => ⟨4, a, b, false, q99, [], []⟩
  | 3 => ⟨5, a, 0, false, b, [], []⟩
  | 4 => ⟨6, 0, b / 2, false, 0, [], ds⟩
  | 5 => ⟨7, 0, 0, false, 0, [], ds⟩
  | 6 => ⟨8, a, b / 2, q2 == 0, 0, [], ds⟩
  | 7 => ⟨8, a, b / 2, q2 == 0, 0, [], ds⟩
  | 8 => ⟨16, 0, a, false, 0, [], []⟩
  | 9 => ⟨17, a, b, false, 0, [], []⟩
  | 10 => ⟨18, 0, a, false, 0, [], []⟩
  | 11 => ⟨26, 0, 0, false, a, [], []⟩
  | 12 => ⟨28, 0, 0, false, a, [], []⟩
  | _ => ⟨if q2 = 0 then 0 else 30, 0, 0, false, 0, [], []⟩
theorem ofRngs_ok (lo x y n : Nat) (h0 : lo < 50) (h1 : x < 18) (h2 : y < 5) (h3 : n < 3) : goodDown 4611686018427387905 (ofRngs lo x y n) ∧ (ofRngs lo x y n).length = 1 + n := by
  rcases (show n = 0 ∨ n = 1 ∨ n = 2 by omega) with rfl | rfl | rfl
  all_goals
    refine ⟨?_, rfl⟩
    simp only [ofRngs, List.take_succ_cons, List.take_zero, goodDown, and_true]
    omega
theorem frOf_ok (k a b q99 q2 q3 q18 q5 q50 : Nat) (ds : List UInt8) (ha : a ≤ 4611686018427387903) (hb : b ≤ 4611686018427387903) (h99 : q99 < 99) (h2 : q2 < 2) (h3 : q3 < 3) (h18 : q18 < 18) (h5 : q5 < 5) (h50 : q50 < 50) (hd : ds.length ≤ 40) (hk : k < 14) : FrOk (frOf k a b q99 q2 q3 q18 q5 q50 ds) := by
  obtain ⟨g1, g2⟩ := ofRngs_ok q50 q18 q5 q3 h50 h18 h5 h3
  rcases (show k = 0 ∨ k = 1 ∨ k = 2 ∨ k = 3 ∨ k = 4 ∨ k = 5 ∨ k = 6 ∨ k = 7 ∨ k = 8 ∨ k = 9 ∨ k = 10 ∨ k = 11 ∨ k = 12 ∨ k = 13 by omega) with rfl | rfl | rfl | rfl | rfl | rfl | rfl | rfl | rfl | rfl | rfl | rfl | rfl | rfl
  case inr.inl =>
    refine ⟨rfl, by simp [frOf], by show (ofRngs q50 q18 q5 q3).length ≤ 6; omega, by simp [frOf], fun _ => rfl, by simp [frOf], fun _ => rfl, by simp [frOf], fun _ => rfl, by simp [frOf, pData], fun _ => rfl, fun _ => rfl, ?_, g1⟩
    refine ⟨fun _ h => ?_, fun _ => rfl⟩
    have h' : ofRngs q50 q18 q5 q3 = [] := h
    rw [h'] at g2
    simp at g2; omega
  case inr.inr.inr.inr.inr.inr.inr.inr.inr.inr.inr.inr.inr =>
    rcases (show q2 = 0 ∨ q2 = 1 by omega) with rfl | rfl
    all_goals exact ⟨rfl, by simp [frOf], by simp [frOf], by simp [frOf], fun _ => rfl, by simp [frOf], fun _ => rfl, by simp [frOf], fun _ => rfl, by simp [frOf, pData], fun _ => rfl, fun _ => rfl, by simp [frOf], trivial⟩
  all_goals
    exact ⟨rfl, by simp [frOf] <;> omega, by simp [frOf], by simp [frOf] <;> omega, by simp [frOf, pId], by simp [frOf] <;> omega, by simp [frOf, pOff], by simp [frOf] <;> omega, by simp [frOf, pCode], by simp [frOf, pData] <;> omega, by simp [frOf, pData], by simp [frOf, pFin], by simp [frOf], trivial⟩

/-- A block that was made on the way from w to w'. -/
def FrIn (w w' : World) (A : Option Addr) : Prop := ∀ a, A = some a → w.heap.size ≤ a.block ∧ a.block < w'.heap.size
theorem frIn_none (w w' : World) : FrIn w w' none := fun a h => by cases h
theorem frIn_some {w w' : World} {g o : Nat} (h1 : w.heap.size ≤ g) (h2 : g < w'.heap.size) : FrIn w w' (some ⟨g, o, none⟩) := fun a h => by
  injection h with h; subst h; exact ⟨h1, h2⟩
/-- What frameOf answers. -/
def FrOut (w : World) (f : FrD) (e : Ending) (w' : World) : Prop := ∃ (A : Option Addr) (c : Nat) (B : Option Addr) (d : Nat), e = .returned (.agg (frcells f A c B d)) ∧ RdX rcells 2 w' A f.rngs ∧ RdB w' B f.data ∧ f.rngs.length ≤ c ∧ c ≤ 9223372036854775807 ∧ f.data.length ≤ d ∧ d ≤ 9223372036854775807 ∧ Below w.heap.size w w' ∧ FrIn w w' A ∧ FrIn w w' B
theorem encB_leF (n : Nat) : (encB n).length ≤ 8 := by
  rw [encB_length]; unfold sizeI; split <;> (try split) <;> (try split) <;> (try split) <;> decide
theorem fenc_bound (f : FrD) : (fenc f).length ≤ 8 + (encRng f.rngs).length + (if pId f.kind then 8 else 0) + (if pOff f.kind then 8 else 0) + (if pWord f.kind || pCode f.kind then 8 else 0) + (if pData f.kind then 8 + f.data.length else 0) := by
  have h1 := encB_leF (fkind f)
  have h3 : (encIf (pId f.kind) f.id).length ≤ (if pId f.kind then 8 else 0) := by unfold encIf; split <;> simp [encB_leF]
  have h4 : (encIf (pOff f.kind) f.off).length ≤ (if pOff f.kind then 8 else 0) := by unfold encIf; split <;> simp [encB_leF]
  have h5 : (encC (pWord f.kind) (pCode f.kind) f.code).length ≤ (if pWord f.kind || pCode f.kind then 8 else 0) := by
    unfold encC encIf
    cases pWord f.kind <;> cases pCode f.kind <;> simp [beB_length, encB_leF]
  have h6 : (encD (pData f.kind) f.data).length ≤ (if pData f.kind then 8 + f.data.length else 0) := by
    unfold encD
    cases pData f.kind
    · simp
    · have := encB_leF f.data.length; simp; omega
  unfold fenc
  simp only [List.length_append]
  generalize (if pId f.kind then 8 else 0) = x1 at *
  generalize (if pOff f.kind then 8 else 0) = x2 at *
  generalize (if pWord f.kind || pCode f.kind then 8 else 0) = x3 at *
  generalize (if pData f.kind then 8 + f.data.length else 0) = x4 at *
  omega
theorem ofRngs_len (lo x y n : Nat) (h : n < 3) : (encRng (ofRngs lo x y n)).length ≤ 56 := by
  rcases (show n = 0 ∨ n = 1 ∨ n = 2 by omega) with rfl | rfl | rfl
  all_goals
    simp only [ofRngs, List.take_succ_cons, List.take_zero, encRng, encRs, List.length_append, List.length_nil, List.length_cons]
  · have := encB_leF ((lo : Int) + 50).toNat; have := encB_leF 0; have := encB_leF ((lo : Int) + 50 - ((lo : Int) + 40)).toNat
    omega
  · have := encB_leF ((lo : Int) + 50).toNat; have := encB_leF (0 + 1); have := encB_leF ((lo : Int) + 50 - ((lo : Int) + 40)).toNat
    have := encB_leF ((lo : Int) + 40 - ((lo : Int) + 20 + x) - 2).toNat; have := encB_leF ((lo : Int) + 20 + x - ((lo : Int) + 20)).toNat
    omega
  · have := encB_leF ((lo : Int) + 50).toNat; have := encB_leF (0 + 1 + 1); have := encB_leF ((lo : Int) + 50 - ((lo : Int) + 40)).toNat
    have := encB_leF ((lo : Int) + 40 - ((lo : Int) + 20 + x) - 2).toNat; have := encB_leF ((lo : Int) + 20 + x - ((lo : Int) + 20)).toNat
    have := encB_leF ((lo : Int) + 20 - ((lo : Int) + y) - 2).toNat; have := encB_leF ((lo : Int) + y - (lo : Int)).toNat
    omega
theorem frOf_len (k a b q99 q2 q3 q18 q5 q50 : Nat) (ds : List UInt8) (h2 : q2 < 2) (h3 : q3 < 3) (hd : ds.length ≤ 40) (hk : k < 14) : (fenc (frOf k a b q99 q2 q3 q18 q5 q50 ds)).length ≤ 72 := by
  have h := fenc_bound (frOf k a b q99 q2 q3 q18 q5 q50 ds)
  have hr := ofRngs_len q50 q18 q5 q3 h3
  rcases (show k = 0 ∨ k = 1 ∨ k = 2 ∨ k = 3 ∨ k = 4 ∨ k = 5 ∨ k = 6 ∨ k = 7 ∨ k = 8 ∨ k = 9 ∨ k = 10 ∨ k = 11 ∨ k = 12 ∨ k = 13 by omega) with rfl | rfl | rfl | rfl | rfl | rfl | rfl | rfl | rfl | rfl | rfl | rfl | rfl | rfl
  case inr.inr.inr.inr.inr.inr.inr.inr.inr.inr.inr.inr.inr =>
    rcases (show q2 = 0 ∨ q2 = 1 by omega) with rfl | rfl <;> simp [frOf, pId, pOff, pCode, pWord, pData, show encRng [] = [] from rfl] at h ⊢ <;> omega
  all_goals simp [frOf, pId, pOff, pCode, pWord, pData, show encRng [] = [] from rfl] at h ⊢ <;> omega

set_option maxRecDepth 100000 in
set_option maxHeartbeats 16000000 in
theorem frameOf_small (r : RawD) (hr : RawOk r) : ∃ f : FrD, (FrOk f ∧ (fenc f).length ≤ 72) ∧ ∀ w, Calls Tryz.prog 30 #[rawV r] w (FrOut w f) := by
  obtain ⟨o0, o1, o2, o3⟩ := hr
  unfold maxLen at o3
  obtain ⟨k, HK, k1⟩ := mod_nat r.kind 14 (by decide)
  obtain ⟨q99, H99, h99⟩ := mod_nat r.a 99 (by decide)
  obtain ⟨q2, H2, h2⟩ := mod_nat r.a 2 (by decide)
  obtain ⟨q3, H3, h3⟩ := mod_nat r.a 3 (by decide)
  obtain ⟨q18, H18, h18⟩ := mod_nat r.a 18 (by decide)
  obtain ⟨q5, H5, h5⟩ := mod_nat r.a 5 (by decide)
  obtain ⟨q50, H50, h50⟩ := mod_nat r.b 50 (by decide)
  obtain ⟨a, ha⟩ : ∃ a, numN r.a = a := ⟨_, rfl⟩
  obtain ⟨b, hb⟩ : ∃ b, numN r.b = b := ⟨_, rfl⟩
  have hab := numN_le r.a
  have hbb := numN_le r.b
  rw [ha] at hab
  rw [hb] at hbb
  have HNA : Hid (∀ W, Calls Tryz.prog 63 #[.int .i64 r.a] W fun e w' => e = .returned (.int .i64 (a : Nat)) ∧ W = w') := fun W => by have := number_nat r.a W; rwa [ha] at this
  have HNB : Hid (∀ W, Calls Tryz.prog 63 #[.int .i64 r.b] W fun e w' => e = .returned (.int .i64 (b : Nat)) ∧ W = w') := fun W => by have := number_nat r.b W; rwa [hb] at this
  clear ha hb
  obtain ⟨cs, hcs⟩ : ∃ cs, cutS r.text 40 = cs := ⟨_, rfl⟩
  have hcs40 : cs.size ≤ 40 := by rw [← hcs]; exact cutS_size _ _
  have HCS : Hid (∀ W, Calls Tryz.prog 29 #[.string r.text, .int .i64 40] W fun e w' => e = .returned (.string cs) ∧ W = w') := fun W => by
    have := cutS_any r.text 40 o3 (by decide) W
    rw [hcs] at this; exact this
  clear hcs
  refine ⟨frOf k a b q99 q2 q3 q18 q5 q50 (bts cs), ⟨frOf_ok k a b q99 q2 q3 q18 q5 q50 (bts cs) (by omega) (by omega) (by omega) (by omega) (by omega) (by omega) (by omega) (by omega) (by rw [bts_len]; exact hcs40) (by omega), frOf_len k a b q99 q2 q3 q18 q5 q50 (bts cs) (by omega) (by omega) (by rw [bts_len]; exact hcs40) (by omega)⟩, fun w => ?_⟩
  have hcv : ∀ W, (convert 9 30 (.string cs)).run Tryz.prog W = .ok (.slice (some ⟨W.heap.size, 0, none⟩) cs.size (grownCap W cs.size 0 5)) (W.drew.alloc (.cells (bytesRow cs (grownCap W cs.size 0 5)) 5 ((bytesRow cs (grownCap W cs.size 0 5)).size, (bytesRow cs (grownCap W cs.size 0 5)).size + 1))) := fun W => run_bytes_of_string W _ _ _ cs Tryz.underlying9 Tryz.underlying30 Tryz.underlying5
  unfold rawV
  go_enter Tryz.func30, Tryz.ntmps30
  go_wp2_with fail
  refine (HCS.out _).mono ?_
  rintro e w' ⟨rfl, rfl⟩
  go_upto_region 2 with (fail)
  obtain ⟨d, hd⟩ : ∃ d, grownCap ((w.alloc (.cells #[.int .i64 r.kind, .int .i64 r.a, .int .i64 r.b, .string r.text] 59)).alloc (.cells #[.int .i64 0, .int .i64 0, .int .i64 0, .bool false, .int .i64 0, .slice none 0 0, .slice none 0 0] 68)) cs.size 0 5 = d := ⟨_, rfl⟩
  have hd1 : cs.size ≤ d := by rw [← hd]; exact grownCap_ge _ _ _ _
  have hd2 : d ≤ 9223372036854775807 := by rw [← hd]; exact grownCap_le_maxLen _ _ _ _ (by unfold maxLen; omega)
  try rw [hd]
  refine wp_world (fun w' => Blk w' w.heap.size 59 #[.int .i64 r.kind, .int .i64 r.a, .int .i64 r.b, .string r.text] ∧ Blk w' (w.heap.size + 1) 68 #[.int .i64 0, .int .i64 0, .int .i64 0, .bool false, .int .i64 0, .slice none 0 0, .slice none 0 0] ∧ RdB w' (some ⟨w.heap.size + 2, 0, none⟩) (bts cs) ∧ w.heap.size + 2 < w'.heap.size ∧ Below w.heap.size w w') ⟨?_, ?_, ?_, ?_, ?_⟩ ?_
  · exact (((Blk.new _ _ _).alloc _).drew).alloc _
  · exact ((Blk.new1 _ _ _ _).drew).alloc _
  · refine Rd.drew ?_
    refine bytes_rdF2 _ _ _ _ _ ?_
    simp
  · simp
  · exact ((((Below.refl _ _).alloc (Nat.le_refl _) _).alloc (by simp) _).drew).alloc (by simp; omega) _
  rintro w2 ⟨hQ, hC, hR, hg, hb⟩
  have FQ := hQ.facts4
  have HQ := Lib.hid hQ
  have HC := Lib.hid hC
  have HR := Lib.hid hR
  have HB := Lib.hid hb
  clear hQ hC hR hb hcv
  go_region_held3 (fun w' => w'.cell? ⟨w.heap.size, 1, none⟩ = some (.int .i64 r.a) ∧ w'.cell? ⟨w.heap.size, 2, none⟩ = some (.int .i64 r.b)) (go_keep)
    (first
      | (go_at_call_of 63 (Value.int .i64 r.a); refine (HNA.out _).mono ?_; rintro e w' ⟨rfl, rfl⟩)
      | (go_at_call_of 63 (Value.int .i64 r.b); refine (HNB.out _).mono ?_; rintro e w' ⟨rfl, rfl⟩))
  go_upto_region 3 with (fail)
  refine wp_world (fun w' => Blk w' w.heap.size 59 #[.int .i64 r.kind, .int .i64 r.a, .int .i64 r.b, .string r.text] ∧ Blk w' (w.heap.size + 1) 68 #[.int .i64 0, .int .i64 0, .int .i64 0, .bool false, .int .i64 0, .slice none 0 0, .slice none 0 0] ∧ RdB w' (some ⟨w.heap.size + 2, 0, none⟩) (bts cs) ∧ w.heap.size + 2 < w'.heap.size ∧ Below w.heap.size w w') ⟨?_, ?_, ?_, ?_, ?_⟩ ?_
  · have h := HQ.out
    (apply Blk.as; (case h => (repeat (first | with_reducible exact h | with_reducible apply Blk.drew | with_reducible apply Blk.set4 | with_reducible apply Blk.set_ | (with_reducible apply Blk.far4 (hne := ?side); case side => (first | omega | (simp; omega) | (simp; done))) | (with_reducible apply Blk.far (hp := ?side); case side => (first | omega | (simp; omega) | (simp; done))) | with_reducible apply Blk.alloc))); (case e => (first | with_reducible rfl | (simp; done) | rfl)))
  · have h := HC.out
    (apply Blk.as; (case h => (repeat (first | with_reducible exact h | with_reducible apply Blk.drew | with_reducible apply Blk.set4 | with_reducible apply Blk.set_ | (with_reducible apply Blk.far4 (hne := ?side); case side => (first | omega | (simp; omega) | (simp; done))) | (with_reducible apply Blk.far (hp := ?side); case side => (first | omega | (simp; omega) | (simp; done))) | with_reducible apply Blk.alloc))); (case e => (first | with_reducible rfl | (simp; done) | rfl)))
  · have h := HR.out
    exact h
  · exact hg
  · have h := HB.out
    (repeat (first | with_reducible exact h | with_reducible refine Below.drew ?_ | (with_reducible refine Below.set4 ?_ ?side _ _ _ _; case side => (first | omega | (simp; omega) | (simp; done))) | (with_reducible refine Below.setCell ?_ ?side _; case side => (first | omega | (simp; omega) | (simp; done))) | (with_reducible refine Below.alloc ?_ ?side _; case side => (first | omega | (simp; omega) | (simp; done)))))
  clear FQ HQ HC HR HB hg
  rintro w3 ⟨hQ, hC, hR, hg, hb⟩
  have FQ := hQ.facts4
  have FC := hC.factsFz
  have HR := Lib.hid hR
  have HB := Lib.hid hb
  have HQ := Lib.hid hQ
  have HC := Lib.hid hC
  have hq1 : IntKind.i64.wrap (Int.tdiv (b : Int) 2) = ((b / 2 : Nat) : Int) := by
    rw [Int.tdiv_eq_ediv_of_nonneg (by omega), IntKind.wrap_i64]; omega
  have hgw : w.heap.size ≠ w.heap.size + 1 := by omega
  clear hQ hC hR hb
  go_wp2_with fail
  refine (picked_at r.kind 14 k o0.1 o0.2 (by decide) (by decide) HK _).mono ?_
  rintro e w' ⟨rfl, rfl⟩
  rcases (show k = 0 ∨ k = 1 ∨ k = 2 ∨ k = 3 ∨ k = 4 ∨ k = 5 ∨ k = 6 ∨ k = 7 ∨ k = 8 ∨ k = 9 ∨ k = 10 ∨ k = 11 ∨ k = 12 ∨ k = 13 by omega) with rfl | rfl | rfl | rfl | rfl | rfl | rfl | rfl | rfl | rfl | rfl | rfl | rfl | rfl
  · go_wp2_with fail
    refine bodyPost_ret (v := .agg #[.int .i64 1, .int .i64 0, .int .i64 0, .bool false, .int .i64 0, .slice none 0 0, .slice none 0 0]) ?_ rfl ⟨none, 0, none, 0, ?_, RdX.nil, RdB.nil, Nat.le_refl _, by decide, Nat.le_refl _, by decide, ?_, frIn_none _ _, frIn_none _ _⟩
    · simp [results, Tryz.results30, go_sem, FC] <;> rfl
    · first | rfl | (simp [frOf, frcells, bts_len]; done) | (simp [frOf, frcells, bts_len, beqF])
    · have h := HB.out
      (repeat (first | with_reducible exact h | with_reducible refine Below.drew ?_ | (with_reducible refine Below.set4 ?_ ?side _ _ _ _; case side => (first | omega | (simp; omega) | (simp; done))) | (with_reducible refine Below.setCell ?_ ?side _; case side => (first | omega | (simp; omega) | (simp; done))) | (with_reducible refine Below.alloc ?_ ?side _; case side => (first | omega | (simp; omega) | (simp; done)))))
  · have hw1 : IntKind.i64.wrap ((q50 : Int) + 40) = (q50 : Int) + 40 := IntWalk.i64_in _ (by omega)
    have hw2 : IntKind.i64.wrap ((q50 : Int) + 50) = (q50 : Int) + 50 := IntWalk.i64_in _ (by omega)
    have hw3 : IntKind.i64.wrap ((q50 : Int) + 20) = (q50 : Int) + 20 := IntWalk.i64_in _ (by omega)
    have hw4 : IntKind.i64.wrap ((q50 : Int) + 20 + (q18 : Int)) = (q50 : Int) + 20 + (q18 : Int) := IntWalk.i64_in _ (by omega)
    have hw5 : IntKind.i64.wrap ((q50 : Int) + (q5 : Int)) = (q50 : Int) + (q5 : Int) := IntWalk.i64_in _ (by omega)
    go_wp2_with fail
    refine (picked_at r.b 50 q50 o2.1 o2.2 (by decide) (by decide) H50 _).mono ?_
    rintro e w' ⟨rfl, rfl⟩
    go_upto_region 8 with (fail)
    go_region_held3 (fun w' => w'.cell? ⟨w.heap.size, 1, none⟩ = some (.int .i64 r.a)) (go_keep)
      (first
        | (go_at_call_of 15 (Value.int .i64 18); refine (picked_at r.a 18 q18 o1.1 o1.2 (by decide) (by decide) H18 _).mono ?_; rintro e w' ⟨rfl, rfl⟩)
        | (go_at_call_of 15 (Value.int .i64 5); refine (picked_at r.a 5 q5 o1.1 o1.2 (by decide) (by decide) H5 _).mono ?_; rintro e w' ⟨rfl, rfl⟩))
    go_upto_region 9 with (fail)
    refine wp_world (fun w' => Blk w' w3.heap.size 116 #[.int .i64 ((q50 : Int) + 40), .int .i64 ((q50 : Int) + 50), .int .i64 ((q50 : Int) + 20), .int .i64 ((q50 : Int) + 20 + (q18 : Int)), .int .i64 (q50 : Int), .int .i64 ((q50 : Int) + (q5 : Int))] ∧ Blk w' w.heap.size 59 #[.int .i64 r.kind, .int .i64 r.a, .int .i64 r.b, .string r.text] ∧ Blk w' (w.heap.size + 1) 68 #[.int .i64 0, .int .i64 0, .int .i64 0, .bool false, .int .i64 0, .slice none 0 0, .slice none 0 0] ∧ Below w.heap.size w w') ⟨(Blk.new _ _ _).drew, (HQ.out.alloc _).drew, (HC.out.alloc _).drew, ?_⟩ ?_
    · have h := HB.out
      exact (h.alloc h.size _).drew
    clear FQ FC HR HB HQ HC hw1 hw2 hw3 hw4 hw5
    have hgl3 : w.heap.size + 2 < w3.heap.size := hg
    generalize w3.heap.size = G at *
    rintro w4 ⟨hR, hQ, hC, hb⟩
    have FQ := hQ.facts4
    have FC := hC.factsFz
    have HR := Lib.hid hR
    have HB := Lib.hid hb
    have hw6 : IntKind.i64.wrap (1 + (q3 : Int)) = 1 + (q3 : Int) := IntWalk.i64_in _ (by omega)
    have hz1 : (0 : Int) ≤ 1 + (q3 : Int) := by omega
    have hz2 : 1 + (q3 : Int) ≤ 3 := by omega
    have hz3 : (1 + (q3 : Int)).toNat = 1 + q3 := by omega
    clear hQ hC hR hb
    go_wp2_with fail
    refine (picked_at r.a 3 q3 o1.1 o1.2 (by decide) (by decide) H3 _).mono ?_
    rintro e w' ⟨rfl, rfl⟩
    go_wp2_with fail
    refine bodyPost_ret (v := .agg #[.int .i64 2, .int .i64 0, .int .i64 0, .bool false, .int .i64 0, .slice (some ⟨G, 0, none⟩) (1 + q3) 3, .slice none 0 0]) ?_ rfl ⟨some ⟨G, 0, none⟩, 3, none, 0, ?_, ?_, RdB.nil, ?_, by decide, Nat.le_refl _, by decide, ?_, frIn_some (w := w) (g := G) (by omega) ?_, frIn_none _ _⟩
    · simp [results, Tryz.results30, go_sem, FC] <;> rfl
    · simp only [frOf, frcells, (ofRngs_ok q50 q18 q5 q3 (by omega) (by omega) (by omega) (by omega)).2]; rfl
    · have h := HR.out
      have hx : RdX rcells 2 w4 (some ⟨G, 0, none⟩) [((q50 : Int) + 40, (q50 : Int) + 50), ((q50 : Int) + 20, (q50 : Int) + 20 + q18), ((q50 : Int), (q50 : Int) + q5)] := Rd.of_blk h rfl
      have hy := RdX.front rcells_len hx (k := 1 + q3) (by show 1 + q3 ≤ 3; omega)
      have hy : Rd w4 2 (some ⟨G, 0, none⟩) (frOf 1 a b q99 q2 q3 q18 q5 q50 (bts cs)).rngs.length ((frOf 1 a b q99 q2 q3 q18 q5 q50 (bts cs)).rngs.flatMap rcells) := hy
      show Rd _ 2 (some ⟨G, 0, none⟩) (frOf 1 a b q99 q2 q3 q18 q5 q50 (bts cs)).rngs.length ((frOf 1 a b q99 q2 q3 q18 q5 q50 (bts cs)).rngs.flatMap rcells)
      (repeat (first | with_reducible exact hy | with_reducible refine Rd.drew ?_ | (with_reducible refine Rd.farc ?_ ?side _; case side => (first | omega | (simp; omega) | (simp; done))) | with_reducible refine Rd.alloc ?_ _))
    · show (ofRngs q50 q18 q5 q3).length ≤ 3
      rw [(ofRngs_ok q50 q18 q5 q3 (by omega) (by omega) (by omega) (by omega)).2]; omega
    · have h := HB.out
      (repeat (first | with_reducible exact h | with_reducible refine Below.drew ?_ | (with_reducible refine Below.set4 ?_ ?side _ _ _ _; case side => (first | omega | (simp; omega) | (simp; done))) | (with_reducible refine Below.setCell ?_ ?side _; case side => (first | omega | (simp; omega) | (simp; done))) | (with_reducible refine Below.alloc ?_ ?side _; case side => (first | omega | (simp; omega) | (simp; done)))))
    · have h := HR.out.lt
      first | with_reducible exact h | (simp; omega)
  · go_wp2_with fail
    refine (picked_at r.a 99 q99 o1.1 o1.2 (by decide) (by decide) H99 _).mono ?_
    rintro e w' ⟨rfl, rfl⟩
    go_wp2_with fail
    refine bodyPost_ret (v := .agg #[.int .i64 4, .int .i64 a, .int .i64 b, .bool false, .int .i64 q99, .slice none 0 0, .slice none 0 0]) ?_ rfl ⟨none, 0, none, 0, ?_, RdX.nil, RdB.nil, Nat.le_refl _, by decide, Nat.le_refl _, by decide, ?_, frIn_none _ _, frIn_none _ _⟩
    · simp [results, Tryz.results30, go_sem, FC] <;> rfl
    · first | rfl | (simp [frOf, frcells, bts_len]; done) | (simp [frOf, frcells, bts_len, beqF])
    · have h := HB.out
      (repeat (first | with_reducible exact h | with_reducible refine Below.drew ?_ | (with_reducible refine Below.set4 ?_ ?side _ _ _ _; case side => (first | omega | (simp; omega) | (simp; done))) | (with_reducible refine Below.setCell ?_ ?side _; case side => (first | omega | (simp; omega) | (simp; done))) | (with_reducible refine Below.alloc ?_ ?side _; case side => (first | omega | (simp; omega) | (simp; done)))))
  · go_wp2_with fail
    refine bodyPost_ret (v := .agg #[.int .i64 5, .int .i64 a, .int .i64 0, .bool false, .int .i64 b, .slice none 0 0, .slice none 0 0]) ?_ rfl ⟨none, 0, none, 0, ?_, RdX.nil, RdB.nil, Nat.le_refl _, by decide, Nat.le_refl _, by decide, ?_, frIn_none _ _, frIn_none _ _⟩
    · simp [results, Tryz.results30, go_sem, FC] <;> rfl
    · first | rfl | (simp [frOf, frcells, bts_len]; done) | (simp [frOf, frcells, bts_len, beqF])
    · have h := HB.out
      (repeat (first | with_reducible exact h | with_reducible refine Below.drew ?_ | (with_reducible refine Below.set4 ?_ ?side _ _ _ _; case side => (first | omega | (simp; omega) | (simp; done))) | (with_reducible refine Below.setCell ?_ ?side _; case side => (first | omega | (simp; omega) | (simp; done))) | (with_reducible refine Below.alloc ?_ ?side _; case side => (first | omega | (simp; omega) | (simp; done)))))
  · go_wp2_with fail
    refine bodyPost_ret (v := .agg #[.int .i64 6, .int .i64 0, .int .i64 (b / 2 : Nat), .bool false, .int .i64 0, .slice none 0 0, .slice (some ⟨w.heap.size + 2, 0, none⟩) cs.size d]) ?_ rfl ⟨none, 0, some ⟨w.heap.size + 2, 0, none⟩, d, ?_, RdX.nil, ?_, Nat.le_refl _, by decide, by show (bts cs).length ≤ d; rw [bts_len]; exact hd1, hd2, ?_, frIn_none _ _, frIn_some (Nat.le_add_right _ _) ?_⟩
    · simp [results, Tryz.results30, go_sem, FC] <;> rfl
    · first | rfl | (simp [frOf, frcells, bts_len]; done) | (simp [frOf, frcells, bts_len, beqF])
    · have h := HR.out
      have h : Rd w3 1 (some ⟨w.heap.size + 2, 0, none⟩) (bts cs).length (u8s (bts cs)) := h
      refine RdB.asF (n := (bts cs).length) (bs := bts cs) ?_ rfl
      (repeat (first | with_reducible exact h | with_reducible refine Rd.drew ?_ | (with_reducible refine Rd.farc ?_ ?side _; case side => (first | omega | (simp; omega) | (simp; done))) | with_reducible refine Rd.alloc ?_ _))
    · have h := HB.out
      (repeat (first | with_reducible exact h | with_reducible refine Below.drew ?_ | (with_reducible refine Below.set4 ?_ ?side _ _ _ _; case side => (first | omega | (simp; omega) | (simp; done))) | (with_reducible refine Below.setCell ?_ ?side _; case side => (first | omega | (simp; omega) | (simp; done))) | (with_reducible refine Below.alloc ?_ ?side _; case side => (first | omega | (simp; omega) | (simp; done)))))
    · first | with_reducible exact hg | (simp; omega)
  · go_wp2_with fail
    refine bodyPost_ret (v := .agg #[.int .i64 7, .int .i64 0, .int .i64 0, .bool false, .int .i64 0, .slice none 0 0, .slice (some ⟨w.heap.size + 2, 0, none⟩) cs.size d]) ?_ rfl ⟨none, 0, some ⟨w.heap.size + 2, 0, none⟩, d, ?_, RdX.nil, ?_, Nat.le_refl _, by decide, by show (bts cs).length ≤ d; rw [bts_len]; exact hd1, hd2, ?_, frIn_none _ _, frIn_some (Nat.le_add_right _ _) ?_⟩
    · simp [results, Tryz.results30, go_sem, FC] <;> rfl
    · first | rfl | (simp [frOf, frcells, bts_len]; done) | (simp [frOf, frcells, bts_len, beqF])
    · have h := HR.out
      have h : Rd w3 1 (some ⟨w.heap.size + 2, 0, none⟩) (bts cs).length (u8s (bts cs)) := h
      refine RdB.asF (n := (bts cs).length) (bs := bts cs) ?_ rfl
      (repeat (first | with_reducible exact h | with_reducible refine Rd.drew ?_ | (with_reducible refine Rd.farc ?_ ?side _; case side => (first | omega | (simp; omega) | (simp; done))) | with_reducible refine Rd.alloc ?_ _))
    · have h := HB.out
      (repeat (first | with_reducible exact h | with_reducible refine Below.drew ?_ | (with_reducible refine Below.set4 ?_ ?side _ _ _ _; case side => (first | omega | (simp; omega) | (simp; done))) | (with_reducible refine Below.setCell ?_ ?side _; case side => (first | omega | (simp; omega) | (simp; done))) | (with_reducible refine Below.alloc ?_ ?side _; case side => (first | omega | (simp; omega) | (simp; done)))))
    · first | with_reducible exact hg | (simp; omega)
  · go_wp2_with fail
    refine (picked_at r.a 2 q2 o1.1 o1.2 (by decide) (by decide) H2 _).mono ?_
    rintro e w' ⟨rfl, rfl⟩
    go_wp2_with fail
    refine bodyPost_ret (v := .agg #[.int .i64 8, .int .i64 a, .int .i64 (b / 2 : Nat), .bool ((q2 : Int) == 0), .int .i64 0, .slice none 0 0, .slice (some ⟨w.heap.size + 2, 0, none⟩) cs.size d]) ?_ rfl ⟨none, 0, some ⟨w.heap.size + 2, 0, none⟩, d, ?_, RdX.nil, ?_, Nat.le_refl _, by decide, by show (bts cs).length ≤ d; rw [bts_len]; exact hd1, hd2, ?_, frIn_none _ _, frIn_some (Nat.le_add_right _ _) ?_⟩
    · simp [results, Tryz.results30, go_sem, FC] <;> rfl
    · first | rfl | (simp [frOf, frcells, bts_len]; done) | (simp [frOf, frcells, bts_len, beqF])
    · have h := HR.out
      have h : Rd w3 1 (some ⟨w.heap.size + 2, 0, none⟩) (bts cs).length (u8s (bts cs)) := h
      refine RdB.asF (n := (bts cs).length) (bs := bts cs) ?_ rfl
      (repeat (first | with_reducible exact h | with_reducible refine Rd.drew ?_ | (with_reducible refine Rd.farc ?_ ?side _; case side => (first | omega | (simp; omega) | (simp; done))) | with_reducible refine Rd.alloc ?_ _))
    · have h := HB.out
      (repeat (first | with_reducible exact h | with_reducible refine Below.drew ?_ | (with_reducible refine Below.set4 ?_ ?side _ _ _ _; case side => (first | omega | (simp; omega) | (simp; done))) | (with_reducible refine Below.setCell ?_ ?side _; case side => (first | omega | (simp; omega) | (simp; done))) | (with_reducible refine Below.alloc ?_ ?side _; case side => (first | omega | (simp; omega) | (simp; done)))))
    · first | with_reducible exact hg | (simp; omega)
  · go_wp2_with fail
    refine (picked_at r.a 2 q2 o1.1 o1.2 (by decide) (by decide) H2 _).mono ?_
    rintro e w' ⟨rfl, rfl⟩
    go_wp2_with fail
    refine bodyPost_ret (v := .agg #[.int .i64 8, .int .i64 a, .int .i64 (b / 2 : Nat), .bool ((q2 : Int) == 0), .int .i64 0, .slice none 0 0, .slice (some ⟨w.heap.size + 2, 0, none⟩) cs.size d]) ?_ rfl ⟨none, 0, some ⟨w.heap.size + 2, 0, none⟩, d, ?_, RdX.nil, ?_, Nat.le_refl _, by decide, by show (bts cs).length ≤ d; rw [bts_len]; exact hd1, hd2, ?_, frIn_none _ _, frIn_some (Nat.le_add_right _ _) ?_⟩
    · simp [results, Tryz.results30, go_sem, FC] <;> rfl
    · first | rfl | (simp [frOf, frcells, bts_len]; done) | (simp [frOf, frcells, bts_len, beqF])
    · have h := HR.out
      have h : Rd w3 1 (some ⟨w.heap.size + 2, 0, none⟩) (bts cs).length (u8s (bts cs)) := h
      refine RdB.asF (n := (bts cs).length) (bs := bts cs) ?_ rfl
      (repeat (first | with_reducible exact h | with_reducible refine Rd.drew ?_ | (with_reducible refine Rd.farc ?_ ?side _; case side => (first | omega | (simp; omega) | (simp; done))) | with_reducible refine Rd.alloc ?_ _))
    · have h := HB.out
      (repeat (first | with_reducible exact h | with_reducible refine Below.drew ?_ | (with_reducible refine Below.set4 ?_ ?side _ _ _ _; case side => (first | omega | (simp; omega) | (simp; done))) | (with_reducible refine Below.setCell ?_ ?side _; case side => (first | omega | (simp; omega) | (simp; done))) | (with_reducible refine Below.alloc ?_ ?side _; case side => (first | omega | (simp; omega) | (simp; done)))))
    · first | with_reducible exact hg | (simp; omega)
  · go_wp2_with fail
    refine bodyPost_ret (v := .agg #[.int .i64 16, .int .i64 0, .int .i64 a, .bool false, .int .i64 0, .slice none 0 0, .slice none 0 0]) ?_ rfl ⟨none, 0, none, 0, ?_, RdX.nil, RdB.nil, Nat.le_refl _, by decide, Nat.le_refl _, by decide, ?_, frIn_none _ _, frIn_none _ _⟩
    · simp [results, Tryz.results30, go_sem, FC] <;> rfl
    · first | rfl | (simp [frOf, frcells, bts_len]; done) | (simp [frOf, frcells, bts_len, beqF])
    · have h := HB.out
      (repeat (first | with_reducible exact h | with_reducible refine Below.drew ?_ | (with_reducible refine Below.set4 ?_ ?side _ _ _ _; case side => (first | omega | (simp; omega) | (simp; done))) | (with_reducible refine Below.setCell ?_ ?side _; case side => (first | omega | (simp; omega) | (simp; done))) | (with_reducible refine Below.alloc ?_ ?side _; case side => (first | omega | (simp; omega) | (simp; done)))))
  · go_wp2_with fail
    refine bodyPost_ret (v := .agg #[.int .i64 17, .int .i64 a, .int .i64 b, .bool false, .int .i64 0, .slice none 0 0, .slice none 0 0]) ?_ rfl ⟨none, 0, none, 0, ?_, RdX.nil, RdB.nil, Nat.le_refl _, by decide, Nat.le_refl _, by decide, ?_, frIn_none _ _, frIn_none _ _⟩
    · simp [results, Tryz.results30, go_sem, FC] <;> rfl
    · first | rfl | (simp [frOf, frcells, bts_len]; done) | (simp [frOf, frcells, bts_len, beqF])
    · have h := HB.out
      (repeat (first | with_reducible exact h | with_reducible refine Below.drew ?_ | (with_reducible refine Below.set4 ?_ ?side _ _ _ _; case side => (first | omega | (simp; omega) | (simp; done))) | (with_reducible refine Below.setCell ?_ ?side _; case side => (first | omega | (simp; omega) | (simp; done))) | (with_reducible refine Below.alloc ?_ ?side _; case side => (first | omega | (simp; omega) | (simp; done)))))
  · go_wp2_with fail
    refine bodyPost_ret (v := .agg #[.int .i64 18, .int .i64 0, .int .i64 a, .bool false, .int .i64 0, .slice none 0 0, .slice none 0 0]) ?_ rfl ⟨none, 0, none, 0, ?_, RdX.nil, RdB.nil, Nat.le_refl _, by decide, Nat.le_refl _, by decide, ?_, frIn_none _ _, frIn_none _ _⟩
    · simp [results, Tryz.results30, go_sem, FC] <;> rfl
    · first | rfl | (simp [frOf, frcells, bts_len]; done) | (simp [frOf, frcells, bts_len, beqF])
    · have h := HB.out
      (repeat (first | with_reducible exact h | with_reducible refine Below.drew ?_ | (with_reducible refine Below.set4 ?_ ?side _ _ _ _; case side => (first | omega | (simp; omega) | (simp; done))) | (with_reducible refine Below.setCell ?_ ?side _; case side => (first | omega | (simp; omega) | (simp; done))) | (with_reducible refine Below.alloc ?_ ?side _; case side => (first | omega | (simp; omega) | (simp; done)))))
  · go_wp2_with fail
    refine bodyPost_ret (v := .agg #[.int .i64 26, .int .i64 0, .int .i64 0, .bool false, .int .i64 a, .slice none 0 0, .slice none 0 0]) ?_ rfl ⟨none, 0, none, 0, ?_, RdX.nil, RdB.nil, Nat.le_refl _, by decide, Nat.le_refl _, by decide, ?_, frIn_none _ _, frIn_none _ _⟩
    · simp [results, Tryz.results30, go_sem, FC] <;> rfl
    · first | rfl | (simp [frOf, frcells, bts_len]; done) | (simp [frOf, frcells, bts_len, beqF])
    · have h := HB.out
      (repeat (first | with_reducible exact h | with_reducible refine Below.drew ?_ | (with_reducible refine Below.set4 ?_ ?side _ _ _ _; case side => (first | omega | (simp; omega) | (simp; done))) | (with_reducible refine Below.setCell ?_ ?side _; case side => (first | omega | (simp; omega) | (simp; done))) | (with_reducible refine Below.alloc ?_ ?side _; case side => (first | omega | (simp; omega) | (simp; done)))))
  · go_wp2_with fail
    refine bodyPost_ret (v := .agg #[.int .i64 28, .int .i64 0, .int .i64 0, .bool false, .int .i64 a, .slice none 0 0, .slice none 0 0]) ?_ rfl ⟨none, 0, none, 0, ?_, RdX.nil, RdB.nil, Nat.le_refl _, by decide, Nat.le_refl _, by decide, ?_, frIn_none _ _, frIn_none _ _⟩
    · simp [results, Tryz.results30, go_sem, FC] <;> rfl
    · first | rfl | (simp [frOf, frcells, bts_len]; done) | (simp [frOf, frcells, bts_len, beqF])
    · have h := HB.out
      (repeat (first | with_reducible exact h | with_reducible refine Below.drew ?_ | (with_reducible refine Below.set4 ?_ ?side _ _ _ _; case side => (first | omega | (simp; omega) | (simp; done))) | (with_reducible refine Below.setCell ?_ ?side _; case side => (first | omega | (simp; omega) | (simp; done))) | (with_reducible refine Below.alloc ?_ ?side _; case side => (first | omega | (simp; omega) | (simp; done)))))
  · rcases (show q2 = 0 ∨ q2 = 1 by omega) with rfl | rfl
    · go_wp2_with fail
      refine (picked_at r.a 2 _ o1.1 o1.2 (by decide) (by decide) H2 _).mono ?_
      rintro e w' ⟨rfl, rfl⟩
      go_wp2_with fail
      refine bodyPost_ret (v := .agg #[.int .i64 0, .int .i64 0, .int .i64 0, .bool false, .int .i64 0, .slice none 0 0, .slice none 0 0]) ?_ rfl ⟨none, 0, none, 0, ?_, RdX.nil, RdB.nil, Nat.le_refl _, by decide, Nat.le_refl _, by decide, ?_, frIn_none _ _, frIn_none _ _⟩
      · simp [results, Tryz.results30, go_sem, FC] <;> rfl
      · first | rfl | simp [frOf, frcells, bts_len]
      · have h := HB.out
        (repeat (first | with_reducible exact h | with_reducible refine Below.drew ?_ | (with_reducible refine Below.set4 ?_ ?side _ _ _ _; case side => (first | omega | (simp; omega) | (simp; done))) | (with_reducible refine Below.setCell ?_ ?side _; case side => (first | omega | (simp; omega) | (simp; done))) | (with_reducible refine Below.alloc ?_ ?side _; case side => (first | omega | (simp; omega) | (simp; done)))))
    · go_wp2_with fail
      refine (picked_at r.a 2 _ o1.1 o1.2 (by decide) (by decide) H2 _).mono ?_
      rintro e w' ⟨rfl, rfl⟩
      go_wp2_with fail
      refine bodyPost_ret (v := .agg #[.int .i64 30, .int .i64 0, .int .i64 0, .bool false, .int .i64 0, .slice none 0 0, .slice none 0 0]) ?_ rfl ⟨none, 0, none, 0, ?_, RdX.nil, RdB.nil, Nat.le_refl _, by decide, Nat.le_refl _, by decide, ?_, frIn_none _ _, frIn_none _ _⟩
      · simp [results, Tryz.results30, go_sem, FC] <;> rfl
      · first | rfl | simp [frOf, frcells, bts_len]
      · have h := HB.out
        (repeat (first | with_reducible exact h | with_reducible refine Below.drew ?_ | (with_reducible refine Below.set4 ?_ ?side _ _ _ _; case side => (first | omega | (simp; omega) | (simp; done))) | (with_reducible refine Below.setCell ?_ ?side _; case side => (first | omega | (simp; omega) | (simp; done))) | (with_reducible refine Below.alloc ?_ ?side _; case side => (first | omega | (simp; omega) | (simp; done)))))
theorem frameOf_any (r : RawD) (hr : RawOk r) : ∃ f : FrD, FrOk f ∧ ∀ w, Calls Tryz.prog 30 #[rawV r] w (FrOut w f) := by
  obtain ⟨f, h, hc⟩ := frameOf_small r hr
  exact ⟨f, h.1, hc⟩
end Go.Proofs.YtbcagdjfegobnaaGreat
/- A short packet of few frames: packed, its head read, unpacked. -/
namespace Go.Proofs.YtbcagdjfegobnaaGreat
open Go.ChangeShapes Go.WideShapes Go.ChangeAt Go.RowKit
set_option linter.unusedVariables false

/-- The bytes of a short packet to 9. -/
def pksB (key : Int) (m : Nat) (fs : List FrD) : List UInt8 := pktB key ⟨2, 9, 0, [], 0, 0⟩ 1 m fs
theorem short_head : PkHead ⟨2, 9, 0, [], 0, 0⟩ := ⟨.inr rfl, by simp, by simp, by simp, fun _ => ⟨rfl, rfl⟩⟩
theorem short_hd (m : Nat) : (pktHd ⟨2, 9, 0, [], 0, 0⟩ 1 m).length = 3 := by
  unfold pktHd henc hfront pktHead
  simp [beB_length]
theorem flat72 (fs : List FrD) (h : ∀ f ∈ fs, (fenc f).length ≤ 72) : (fs.flatMap fenc).length ≤ 72 * fs.length := by
  induction fs with
  | nil => simp
  | cons f l ih =>
    have h1 := h f List.mem_cons_self
    have h2 := ih fun g hg => h g (List.mem_cons_of_mem _ hg)
    simp only [List.flatMap_cons, List.length_append, List.length_cons]
    omega
theorem pksB_len (key : Int) (m : Nat) (fs : List FrD) (h : ∀ f ∈ fs, (fenc f).length ≤ 72) (h5 : fs.length ≤ 5) : 11 ≤ (pksB key m fs).length ∧ (pksB key m fs).length ≤ 400 := by
  have h1 := flat72 fs h
  unfold pksB pktB
  rw [List.length_append, short_hd, sealB_length]
  omega
theorem pksB_dec (key : Int) (m : Nat) (fs : List FrD) : hdec (pksB key m fs) = (⟨2, 9, 0, [], m % 256 ^ 1, 1⟩, 3, 0) := by
  have h := hdec_pkt key ⟨2, 9, 0, [], 0, 0⟩ short_head m 1 (by decide) (by decide) fs
  rw [short_hd] at h
  exact h
theorem pksB_unpack (key : Int) (m : Nat) (hm : m < 1099511627776) (fs : List FrD) (ok : ∀ f ∈ fs, FrOk f) (h5 : fs.length ≤ 5) : unpackF key 1 (m % 256 ^ 1) 3 ((m : Int) - 1) (pksB key m fs) = ((m : Int), fs, 0) := by
  have h := unpack_pkt key ⟨2, 9, 0, [], 0, 0⟩ m ((m : Int) - 1) ((m : Int) - 1) (by omega) (by omega) (by omega) (by omega) (by omega) (by omega) fs ok (by omega) 1 (by
    rw [show ((m : Int) - ((m : Int) - 1)).toNat = 1 by omega]; rfl)
  rw [short_hd] at h
  exact h
/-- Packed. -/
theorem short_any (key : Int) (hk0 : 0 ≤ key) (hk1 : key < 18446744073709551616) (m : Nat) (hm : m < 1099511627776) (L : Option Addr) (i c : Nat) (xs : List FrM) (hi : xs.length = i) (h5 : i ≤ 5) (hic : i ≤ c) (hcm : c ≤ 9223372036854775807) (ok : ∀ x ∈ xs, FrOk x.f ∧ (fenc x.f).length ≤ 72) (w : World) (hL : FrRd w L xs) :
    Calls Tryz.prog 23 #[.int .u64 key, .agg #[.int .i64 2, .int .i64 9, .int .i64 0, .slice none 0 0, .int .i64 0, .int .i64 0], .int .i64 m, .int .i64 ((m : Int) - 1), .slice L i c] w fun e w' =>
      ∃ A k c', e = .returned (.tuple #[.slice A k c', .int .i64 0]) ∧ (pksB key m (xs.map (·.f))).length = k ∧ 11 ≤ k ∧ k ≤ 400 ∧ OwnB w' w.heap.size 5 A c' (pksB key m (xs.map (·.f))) ∧ Below w.heap.size w w' := by
  have hl := pksB_len key m (xs.map (·.f)) (fun f hf => by obtain ⟨x, hx, rfl⟩ := List.mem_map.1 hf; exact (ok x hx).2) (by rw [List.length_map]; omega)
  have h := packet_any key hk0 hk1 ⟨2, 9, 0, [], 0, 0⟩ short_head none 0 0 rfl 0 0 m (by omega) ((m : Int) - 1) (by omega) (by omega) (by omega) L i c xs hi (by omega) hic hcm (fun x hx => (ok x hx).1) w Rd.nil hL
  rw [show ((m : Int) - ((m : Int) - 1)).toNat = 1 by omega] at h
  refine h.mono ?_
  rintro e w' ⟨(⟨h1, _⟩ | ⟨_, A, k, c', rfl, hk, hO⟩), hb⟩
  · exfalso
    have : (pksB key m (xs.map (·.f))).length > 400 := h1
    omega
  · have hk : (pksB key m (xs.map (·.f))).length = k := hk
    exact ⟨A, k, c', rfl, hk, by omega, by omega, hO, hb⟩
theorem hcells_one (h : HeadD) (A : Option Addr) (c : Nat) : ∀ u ∈ (hcells h A c).toList, u.oneCell' = true := by
  intro u hu
  simp only [hcells, List.mem_cons, List.not_mem_nil, or_false] at hu
  rcases hu with rfl | rfl | rfl | rfl | rfl | rfl <;> rfl
/-- Unpacked, whatever the bytes. -/
theorem unp_any (key : Int) (hk0 : 0 ≤ key) (hk1 : key < 18446744073709551616) (m : Nat) (hm : m < 1099511627776) (T : Option Addr) (d : Nat) (B : Option Addr) (k c : Nat) (bs : List UInt8) (hk : bs.length = k) (h3 : 11 ≤ k) (h4 : k ≤ 400) (hkc : k ≤ c) (hcm : c ≤ 9223372036854775807) (w : World) (hB : RdB w B bs) :
    Calls Tryz.prog 32 #[.int .u64 key, .agg (hcells ⟨2, 9, 0, [], m % 256 ^ 1, 1⟩ T d), .int .i64 3, .int .i64 ((m : Int) - 1), .slice B k c] w (UnpOut w (unpackF key 1 (m % 256 ^ 1) 3 ((m : Int) - 1) bs)) :=
  unpack_any key hk0 hk1 2 9 0 T 0 d (m % 256 ^ 1) 1 3 (by decide) (Nat.mod_lt _ (by decide)) ((m : Int) - 1) (by omega) (by omega) (by decide) B k c bs hk hkc hcm (by omega) (fun e => by
    obtain ⟨b, off, e2, _⟩ := hB.cell (by omega)
    rw [e] at e2; cases e2) w hB
end Go.Proofs.YtbcagdjfegobnaaGreat
/- The contract of sameFrames, where the frames are the same (the part of FrameListA that a seat without FrameBack can have). -/
namespace Go.Proofs.YtbcagdjfegobnaaGreat
open Go.ChangeShapes Go.WideShapes Go.ChangeAt Go.RowKit
set_option linter.unusedVariables false

theorem sameF_reflS (f : FrD) : sameF f f = true := (sameF_iff f f).2 rfl
set_option maxHeartbeats 2000000 in
theorem sameFrames_eq (A B : Option Addr) (n c d : Nat) (xs ys : List FrM) (hx : xs.length = n) (hy : ys.length = n) (hn : n ≤ 1000) (hf : xs.map (·.f) = ys.map (·.f)) (hm : ∀ x ∈ xs, x.f.rngs.length ≤ 9223372036854775807) (w : World) (hA : FrRd w A xs) (hB : FrRd w B ys) :
    Calls Tryz.prog 33 #[.slice A n c, .slice B n d] w fun e w' => e = .returned (.bool true) ∧ Below w.heap.size w w' := by
  have HX := Lib.hid hx
  have HY := Lib.hid hy
  have HF := Lib.hid hf
  have HM := Lib.hid hm
  have HA := Lib.hid hA
  have HB := Lib.hid hB
  clear hx hy hf hm hA hB
  go_enter Tryz.func33, Tryz.ntmps33
  go_wp2_with fail
  go_loopw [5, 6] (fun ok i wr => ∃ k : Nat, k ≤ n ∧ i = .int .i64 k ∧ ok = .bool true ∧ Below w.heap.size w wr) (fun _ i _ => n - (intOf i).toNat)
  case atStart => exact ⟨0, Nat.zero_le _, rfl, by first | rfl | simp, Below.refl _ _⟩
  case round =>
    obtain ⟨k, hk, rfl, rfl, hb⟩ := hrel
    by_cases hlt : k < n
    · have hxk : k < xs.length := by rw [HX.out]; exact hlt
      have hyk : k < ys.length := by rw [HY.out]; exact hlt
      have hxm : xs.getD k fmn ∈ xs := by simp [List.getD, hxk]
      have hym : ys.getD k fmn ∈ ys := by simp [List.getD, hyk]
      have hff : (xs.getD k fmn).f = (ys.getD k fmn).f := by
        have h := congrArg (fun l => l[k]?) HF.out
        simp only [List.getElem?_map, List.getElem?_eq_getElem hxk, List.getElem?_eq_getElem hyk, Option.map_some, Option.some.injEq] at h
        simp only [List.getD, List.getElem?_eq_getElem hxk, List.getElem?_eq_getElem hyk, Option.getD_some]
        exact h
      have hrl := HM.out _ hxm
      have hA := HA.out.below hb
      have hB := HB.out.below hb
      obtain ⟨b, off, rfl, hcell⟩ := hA.at_ (by omega)
      obtain ⟨b', off', rfl, hcell'⟩ := hB.at_ (by omega)
      have hX := hA.2 _ hxm
      have hY := hB.2 _ hym
      have cA := hcell k hxk
      have cB := hcell' k hyk
      generalize xs.getD k fmn = x at *
      generalize ys.getD k fmn = y at *
      obtain ⟨f, xA, xc, xB, xd⟩ := x
      obtain ⟨f', yA, yc, yB, yd⟩ := y
      obtain rfl : f = f' := hff
      have p0 := cA 0 _ (by decide) rfl
      have p1 := cA 1 _ (by decide) rfl
      have p2 := cA 2 _ (by decide) rfl
      have p3 := cA 3 _ (by decide) rfl
      have p4 := cA 4 _ (by decide) rfl
      have p5 := cA 5 _ (by decide) rfl
      have p6 := cA 6 _ (by decide) rfl
      have q0 := cB 0 _ (by decide) rfl
      have q1 := cB 1 _ (by decide) rfl
      have q2 := cB 2 _ (by decide) rfl
      have q3 := cB 3 _ (by decide) rfl
      have q4 := cB 4 _ (by decide) rfl
      have q5 := cB 5 _ (by decide) rfl
      have q6 := cB 6 _ (by decide) rfl
      rw [Nat.add_zero] at p0 q0
      have hSF : ∀ W, Below wr.heap.size wr W → Calls Tryz.prog 68 #[.agg (frcells f xA xc xB xd), .agg (frcells f yA yc yB yd)] W fun e w' => e = .returned (.bool true) ∧ Below W.heap.size W w' := fun W hW => by
        have h := sameFrame_any f f xA xc xB xd yA yc yB yd W hrl (RdX.below hX.1 hW) (hX.2.1.below hW) (RdX.below hY.1 hW) (hY.2.1.below hW)
        rwa [sameF_reflS] at h
      have HSF := Lib.hid hSF
      have hfacts : ∀ w', Below wr.heap.size wr w' → w'.cell? ⟨b, off + k * 7, none⟩ = some (.int .i64 f.kind) ∧ w'.cell? ⟨b, off + k * 7 + 1, none⟩ = some (.int .i64 f.id) ∧ w'.cell? ⟨b, off + k * 7 + 2, none⟩ = some (.int .i64 f.off) ∧ w'.cell? ⟨b, off + k * 7 + 3, none⟩ = some (.bool f.fin) ∧ w'.cell? ⟨b, off + k * 7 + 4, none⟩ = some (.int .i64 f.code) ∧ w'.cell? ⟨b, off + k * 7 + 5, none⟩ = some (.slice xA f.rngs.length xc) ∧ w'.cell? ⟨b, off + k * 7 + 6, none⟩ = some (.slice xB f.data.length xd) ∧ w'.cell? ⟨b', off' + k * 7, none⟩ = some (.int .i64 f.kind) ∧ w'.cell? ⟨b', off' + k * 7 + 1, none⟩ = some (.int .i64 f.id) ∧ w'.cell? ⟨b', off' + k * 7 + 2, none⟩ = some (.int .i64 f.off) ∧ w'.cell? ⟨b', off' + k * 7 + 3, none⟩ = some (.bool f.fin) ∧ w'.cell? ⟨b', off' + k * 7 + 4, none⟩ = some (.int .i64 f.code) ∧ w'.cell? ⟨b', off' + k * 7 + 5, none⟩ = some (.slice yA f.rngs.length yc) ∧ w'.cell? ⟨b', off' + k * 7 + 6, none⟩ = some (.slice yB f.data.length yd) := fun w' hw' => ⟨cell_keep hw' p0, cell_keep hw' p1, cell_keep hw' p2, cell_keep hw' p3, cell_keep hw' p4, cell_keep hw' p5, cell_keep hw' p6, cell_keep hw' q0, cell_keep hw' q1, cell_keep hw' q2, cell_keep hw' q3, cell_keep hw' q4, cell_keep hw' q5, cell_keep hw' q6⟩
      have HFA := Lib.hid hfacts
      have hk0 : (0 : Int) ≤ (k : Int) := by omega
      have hk1 : (k : Int) < (n : Int) := by omega
      have HBW := Lib.hid hb
      clear hfacts p0 p1 p2 p3 p4 p5 p6 q0 q1 q2 q3 q4 q5 q6 hcell hcell' cA cB hA hB hX hY hSF hxk hyk hxm hym HA HB HF HM HX HY hb
      go_upto_region 5 with (fail)
      refine wp_region_quiet (C := fun w' => Below (wr).heap.size (wr) w') (by kernel_rfl) (by kernel_rfl) (Below.refl _ _).drew ?_
      repeat (
        with_reducible refine wpQuiet_step ?_
        intro K hK
        go_simp
        first
          | (refine hK _ ?_; clear hK K)
          | (apply Exists.intro
             refine ⟨fun w' hw' => ?_, hK _ ?_⟩
             first
               | (go_at_call 68; exact (HSF.out _ hw').mono (fun e w'' ⟨he, hb⟩ => ⟨he, hw'.trans (hb.mono hw'.size)⟩))
               | (have FF := HFA.out w' hw'; go_simp; done)
               | (have FF := HFA.out w' hw'; go_simp; exact rfl)
             clear hK K))
      
      refine wpQuiet_nil ?_
      intro wq hwq
      have hb2 := HBW.out.trans (hwq.mono HBW.out.size)
      clear hwq HFA HSF
      go_wp2_with fail
      go_roundw
      case rel => exact ⟨k + 1, by omega, by go_num, rfl, hb2⟩
      case measure => simp [intOf]; omega
    · obtain rfl : k = n := by omega
      go_wp2_with fail
      go_ret
      exact ⟨rfl, hb⟩

end Go.Proofs.YtbcagdjfegobnaaGreat
