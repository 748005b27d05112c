/- Texts of the requests, merged by merge.py: CutStrWalk TextOfWalk FieldOfWalk SomeWalk RqOf RqLaw RqCall RqFeed RqDone FSame RqKeep. -/
import Derived.Test.YtihngonemdaihaaPickWalk
import Derived.Lib.Hide
import Derived.Test.YtihngonemdaihaaStrApp
import Derived.Test.YtihngonemdaihaaPickAt
import Derived.Test.YtihngonemdaihaaGetWalk
import Derived.Test.YtihngonemdaihaaRawOpen
import Derived.Deep.RegionHeld3
import Derived.Test.YtihngonemdaihaaRqOne
import Derived.Deep.RegionLaw
import Derived.BigQuiet
import Derived.Test.YtihngonemdaihaaTableWalk
import Derived.BigRegion
import Derived.Deep.QuietTactic
import Derived.Test.YtihngonemdaihaaTabKeep
/- The contract of cut. -/
namespace Go.Proofs.Ytihngonemdaihaa
open Go.ChangeShapes Go.WideShapes Go.ChangeAt Go.RowKit
set_option linter.unusedVariables false

/-- The first bytes of a text. -/
def cutS (s : ByteArray) (m : Nat) : ByteArray := s.extract 0 (min s.size m)
theorem cutS_size (s : ByteArray) (m : Nat) : (cutS s m).size ≤ m := by unfold cutS; simp; omega
theorem extract_whole (s : ByteArray) : s.extract 0 s.size = s := by
  apply ByteArray.ext; simp
theorem cut_any (s : ByteArray) (m : Nat) (hs : s.size ≤ 9223372036854775807) (hm : m ≤ 9223372036854775807) (w : World) :
    Calls Try.prog 13 #[.string s, .int .i64 (m : Int)] w fun e w' => e = .returned (.string (cutS s m)) ∧ w = w' := by
  rcases Nat.lt_trichotomy s.size m with h | h | h
  · have e : cutS s m = s := by unfold cutS; rw [Nat.min_eq_left (by omega)]; exact extract_whole s
    rw [e]; clear e
    go_enter Try.func13, Try.ntmps13
    go_wp2_with fail
    all_goals (go_ret; exact ⟨rfl, rfl⟩)
  · have e : cutS s m = s := by unfold cutS; rw [Nat.min_eq_left (by omega)]; exact extract_whole s
    rw [e]; clear e
    subst h
    go_enter Try.func13, Try.ntmps13
    go_wp2_with fail
    all_goals (go_ret; exact ⟨rfl, rfl⟩)
  · have e : cutS s m = s.extract 0 m := by unfold cutS; rw [Nat.min_eq_right (by omega)]
    rw [e]; clear e
    go_enter Try.func13, Try.ntmps13
    go_wp2_with fail
    all_goals (go_ret; exact ⟨rfl, rfl⟩)
end Go.Proofs.Ytihngonemdaihaa
/- The contract of text: so many bytes, whatever they are. -/
namespace Go.Proofs.Ytihngonemdaihaa
open Go.ChangeShapes Go.WideShapes Go.ChangeAt Go.RowKit
set_option linter.unusedVariables false

theorem u8_infoT : (Try.prog.info? 5).map (fun i => (i.zero, i.size, i.bytes)) = some (some (.int .u8 0), 1, 1) := by kernel_rfl

set_option maxRecDepth 100000 in
set_option maxHeartbeats 2000000 in
theorem textR_loc (s : ByteArray) (n most : Int) (k : Nat) (hs : s.size ≤ 9223372036854775807) (h0 : -9223372036854775808 ≤ n) (h1 : n ≤ 9223372036854775807) (hm0 : 0 ≤ most) (hm1 : most ≤ 100000) (hk : Hid (n % (most + 1) = (k : Int))) (hk1 : k ≤ 100000) (w : World) :
    Calls Try.prog 14 #[.string s, .int .i64 n, .int .i64 most] w fun e w' => ∃ (A : Option Addr) (c : Nat) (bs : List UInt8), e = .returned (.slice A k c) ∧ bs.length = k ∧ k ≤ c ∧ c ≤ 9223372036854775807 ∧ RdB w' A bs ∧ Below w.heap.size w w' ∧ (∀ q, A.map (fun y : Addr => y.block) = some q → w.heap.size ≤ q ∧ q < w'.heap.size) := by
  have hmw : IntKind.i64.wrap (most + 1) = most + 1 := by rw [IntKind.wrap_i64]; omega
  go_enter Try.func14, Try.ntmps14
  go_wp2_with fail
  refine (picked_at n (most + 1) k h0 h1 (by omega) (by omega) hk _).mono ?_
  rintro e w' ⟨rfl, rfl⟩
  clear hk
  go_wp2_with fail
  go_loopw [8, 9] (fun s8 s9 wr => ∃ (l j : Nat) (A : Option Addr) (c : Nat) (bs : List UInt8), s8 = .slice A l c ∧ s9 = .int .i64 (j : Int) ∧ Hid (bs.length = l) ∧ l ≤ c ∧ c ≤ 9223372036854775807 ∧ j ≤ l ∧ l ≤ k + 9 ∧ OwnB wr w.heap.size 5 A c bs ∧ Below w.heap.size w wr) (fun _ s9 _ => k - (intOf s9).toNat)
  case atStart => exact ⟨0, 0, none, 0, [], rfl, rfl, rfl, Nat.le_refl _, by decide, Nat.le_refl _, by omega, OwnB.nil _ _ _, Below.refl _ _⟩
  case round =>
    obtain ⟨l, j, A, c, bs, rfl, rfl, HL, hlc, hcm, hjl, hlk, hO, hb⟩ := hrel
    by_cases hlt : l < k
    · have HB := Lib.hid (show (j : Int) % 256 = ((UInt8.ofNat j).toNat : Int) from by simp)
      have hsz := hb.size
      have hcs := cutS_size s 9
      go_wp2_with (at_builtin
                   refine wpList_appB _ rfl (.tmp 20) (.tmp 23) _ rfl w.heap.size 5 Try.underlying24 u8_infoT A l c _ rfl HL.out (hO.below ((Below.refl _ _).alloc (Nat.le_refl _) _) (Nat.le_refl _)) (some ⟨wr.heap.size, 0, none⟩) 1 1 [UInt8.ofNat j] rfl rfl (RdB.one _ _ _ _ HB.out) _ rfl (l + 1) rfl (by omega) (by have := hb.size; simp; omega) ?_
                   intro A1 c1 w1 hO1 hc1 hm1 hb1)
      refine (cut_any s 9 hs (by decide) _).mono ?_
      rintro e w' ⟨rfl, rfl⟩
      have hb2 : Below w.heap.size w w1 := (hb.alloc hb.size _).trans hb1
      have hs1 := hb2.size
      have HL1 : Hid ((bs ++ [UInt8.ofNat j]).length = l + 1) := by show _ = _; rw [List.length_append, HL.out]; rfl
      go_wp2_with (at_builtin
                   refine wpList_appS _ rfl (.tmp 24) (.tmp 26) _ _ rfl w.heap.size 5 Try.underlying24 Try.underlying9 u8_infoT A1 (l + 1) c1 _ rfl HL1.out hO1 (cutS s 9) rfl _ rfl (l + 1 + (cutS s 9).size) rfl (by omega) (by omega) ?_
                   intro A2 c2 w2 hO2 hc2 hm2 hb3)
      go_roundw
      case rel =>
        refine ⟨l + 1 + (cutS s 9).size, j + 1, A2, c2, _, rfl, by go_num, ?_, hc2, hm2, by omega, by omega, hO2, hb2.trans hb3⟩
        show _ = _
        rw [List.length_append, HL1.out, bts_len]
      case measure => simp [intOf]; omega
    · have hkc : k ≤ c := by omega
      go_wp2_with fail
      go_ret
      refine ⟨A, c, bs.take k, rfl, by rw [List.length_take, HL.out]; omega, hkc, hcm, ?_, hb, fun q hq => World.ownsRow.lt hO q (by rw [← hq]; cases A <;> rfl)⟩
      exact (RdB.of_own hO).front (by rw [HL.out]; omega)
theorem textR_any (s : ByteArray) (n most : Int) (k : Nat) (hs : s.size ≤ 9223372036854775807) (h0 : -9223372036854775808 ≤ n) (h1 : n ≤ 9223372036854775807) (hm0 : 0 ≤ most) (hm1 : most ≤ 100000) (hk : Hid (n % (most + 1) = (k : Int))) (hk1 : k ≤ 100000) (w : World) :
    Calls Try.prog 14 #[.string s, .int .i64 n, .int .i64 most] w fun e w' => ∃ (A : Option Addr) (c : Nat) (bs : List UInt8), e = .returned (.slice A k c) ∧ bs.length = k ∧ k ≤ c ∧ c ≤ 9223372036854775807 ∧ RdB w' A bs ∧ Below w.heap.size w w' :=
  (textR_loc s n most k hs h0 h1 hm0 hm1 hk hk1 w).mono fun e w' ⟨A, c, bs, a1, a2, a3, a4, a5, a6, _⟩ => ⟨A, c, bs, a1, a2, a3, a4, a5, a6⟩
end Go.Proofs.Ytihngonemdaihaa
/- The contract of fieldOf. -/
namespace Go.Proofs.Ytihngonemdaihaa
open Go.ChangeShapes Go.WideShapes Go.ChangeAt Go.RowKit
set_option linter.unusedVariables false

def nameN (i : Int) : ByteArray := if i = 0 then ⟨#[97, 103, 101]⟩ else if i = 1 then ⟨#[101, 116, 97, 103]⟩ else if i = 2 then ⟨#[104, 111, 115, 116]⟩ else if i = 3 then ⟨#[120, 45, 97]⟩ else ⟨#[115, 101, 114, 118, 101, 114]⟩
/-- fieldOf, as the code does it. -/
def fieldF (r : RawD) : Fld := (nameN (r.a % 5), cutS r.text (r.b % 12).toNat)
theorem nameN_size (i : Int) : 3 ≤ (nameN i).size ∧ (nameN i).size ≤ 6 := by
  unfold nameN; repeat' split
  all_goals exact ⟨by decide, by decide⟩
theorem fieldF_ok (r : RawD) : FOk (fieldF r) ∧ (fieldF r).2.size ≤ 11 := by
  have h1 := nameN_size (r.a % 5)
  have h2 := cutS_size r.text (r.b % 12).toNat
  have h3 := Int.emod_lt_of_pos r.b (show (0 : Int) < 12 by decide)
  have h4 : (cutS r.text (r.b % 12).toNat).size ≤ 11 := by omega
  exact ⟨⟨by show 1 ≤ (nameN (r.a % 5)).size; omega, by show (nameN (r.a % 5)).size ≤ 20; omega, by show (cutS r.text (r.b % 12).toNat).size ≤ 40; omega⟩, h4⟩

/-- The load out of the slice of names, behind a name (so that the walk of the region does not try to take it first). -/
def nameLoad : Oper := { dst := some 8, op := Op.load 9 (Operand.tmp 7), type := 9, pos := "mid.go:423", after := #[{ on := 4, ground := Ground.data }], guard := none }
theorem nameLoad_eq : nameLoad = { dst := some 8, op := Op.load 9 (Operand.tmp 7), type := 9, pos := "mid.go:423", after := #[{ on := 4, ground := Ground.data }], guard := none } := rfl
attribute [local go_sem] nameLoad

set_option maxRecDepth 100000 in
set_option maxHeartbeats 4000000 in
theorem fieldOf_any (r : RawD) (hr : RawOk r) (F : Fld) (hF : fieldF r = F) (w : World) :
    Calls Try.prog 16 #[.agg #[.int .i64 r.kind, .int .i64 r.a, .int .i64 r.b, .string r.text]] w fun e w' => e = .returned (.agg #[.string F.1, .string F.2]) ∧ Below w.heap.size w w' := by
  obtain ⟨o0, o1, o2, o3⟩ := hr
  unfold maxLen at o3
  have hm0 := Int.emod_nonneg r.b (show (12 : Int) ≠ 0 by decide)
  obtain ⟨m, hm⟩ : ∃ m : Nat, r.b % 12 = (m : Int) := ⟨(r.b % 12).toNat, by omega⟩
  obtain ⟨y, HY, y0, y1⟩ := mod_ex r.a 5 (by decide)
  have hF1 : F = (nameN y, cutS r.text m) := by rw [← hF]; unfold fieldF; rw [HY.out, hm]; rfl
  have HM : Hid (r.b % 12 = (m : Int)) := hm
  have hm12 : m < 12 := by have := Int.emod_lt_of_pos r.b (show (0 : Int) < 12 by decide); omega
  subst hF1
  clear hF hm hm0
  go_enter Try.func16, Try.ntmps16
  go_upto_region 1 with (fail)
  refine wp_world (fun w' => Blk w' w.heap.size 52 #[.int .i64 r.kind, .int .i64 r.a, .int .i64 r.b, .string r.text] ∧ Blk w' (w.heap.size + 1) 47 #[.string ByteArray.empty, .string ByteArray.empty] ∧ Below w.heap.size w w') ⟨(Blk.new _ _ _).alloc _, Blk.new1 _ _ _ _, ((Below.refl _ _).alloc (Nat.le_refl _) _).alloc (by simp) _⟩ ?_
  rintro w2 ⟨hQ, hC, hb⟩
  have FQ := hQ.facts4
  have FC := hC.two
  have hgl := hC.lt
  obtain ⟨i, rfl⟩ := Int.eq_ofNat_of_zero_le y0
  have hix : (#[Value.string ⟨#[97, 103, 101]⟩, Value.string ⟨#[101, 116, 97, 103]⟩, Value.string ⟨#[104, 111, 115, 116]⟩, Value.string ⟨#[120, 45, 97]⟩, Value.string ⟨#[115, 101, 114, 118, 101, 114]⟩] : Array Value)[i]? = some (Value.string (nameN i)) := by
    obtain rfl | rfl | rfl | rfl | rfl : i = 0 ∨ i = 1 ∨ i = 2 ∨ i = 3 ∨ i = 4 := by omega
    all_goals rfl
  have hi5 : (i : Int) < 5 := y1
  generalize hnm : nameN (i : Int) = nm at hix
  have HNM := Lib.hid hnm
  clear hnm
  rw [← nameLoad_eq]
  go_region_held3 (fun w' => w'.cell? ⟨w.heap.size, 1, none⟩ = some (.int .i64 r.a) ∧ w'.cell? ⟨w.heap.size, 2, none⟩ = some (.int .i64 r.b) ∧ w'.cell? ⟨w.heap.size, 3, none⟩ = some (.string r.text)) (go_keep)
      (first
        | (go_at_call_of 8 (Value.int .i64 r.a); refine (picked_at _ _ _ o1.1 o1.2 (by decide) (by decide) HY _).mono ?_; rintro e w' ⟨rfl, rfl⟩)
        | (go_at_call_of 8 (Value.int .i64 r.b); refine (picked_at _ _ _ o2.1 o2.2 (by decide) (by decide) HM _).mono ?_; rintro e w' ⟨rfl, rfl⟩)
        | (go_at_call 13; refine (cut_any r.text m o3 (by omega) _).mono ?_; rintro e w' ⟨rfl, rfl⟩))
  all_goals
    go_wp2_with fail
    refine bodyPost_ret (v := .agg #[.string nm, .string (cutS r.text m)]) ?_ rfl ⟨by rw [HNM.out], ?_⟩
    · simp [results, Try.results16, go_sem, FC, hgl]
    · (repeat (first | with_reducible exact hb | with_reducible refine Below.drew ?_ | (with_reducible refine Below.set4 ?_ ?side _ _ _ _; case side => (first | omega | (simp; omega) | (simp; done))) | (with_reducible refine Below.setCell ?_ ?side _; case side => (first | omega | (simp; omega) | (simp; done))) | (with_reducible refine Below.alloc ?_ ?side _; case side => (first | omega | (simp; omega) | (simp; done)))))
end Go.Proofs.Ytihngonemdaihaa
/- The contract of some. -/
namespace Go.Proofs.Ytihngonemdaihaa
open Go.ChangeShapes Go.WideShapes Go.ChangeAt Go.RowKit
set_option linter.unusedVariables false

theorem some_any (A : Option Addr) (len cap k : Nat) (m : Int) (hl : len ≤ cap) (hc : cap ≤ 9223372036854775807) (hm0 : 0 ≤ m) (hm : m ≤ 9223372036854775807) (hk : min (len : Int) m = k) (w : World) :
    Calls Try.prog 15 #[.slice A len cap, .int .i64 m] w fun e w' => e = .returned (.slice A k cap) ∧ w = w' := by
  obtain ⟨M, rfl⟩ := Int.eq_ofNat_of_zero_le hm0
  rcases Nat.lt_trichotomy len M with h | h | h
  · obtain rfl : k = len := by omega
    clear hk
    go_enter Try.func15, Try.ntmps15
    go_wp2_with fail
    all_goals (go_ret; exact ⟨rfl, rfl⟩)
  · subst h
    obtain rfl : k = len := by omega
    clear hk
    go_enter Try.func15, Try.ntmps15
    go_wp2_with fail
    all_goals (go_ret; exact ⟨rfl, rfl⟩)
  · obtain rfl : k = M := by omega
    clear hk
    go_enter Try.func15, Try.ntmps15
    go_wp2_with fail
    all_goals (go_ret; exact ⟨rfl, rfl⟩)
end Go.Proofs.Ytihngonemdaihaa
/- The contract of requestOf. -/
namespace Go.Proofs.Ytihngonemdaihaa
open Go.ChangeShapes Go.WideShapes Go.ChangeAt Go.RowKit
set_option linter.unusedVariables false

def gGET : ByteArray := ⟨#[71, 69, 84]⟩
/-- A field that is no ':' one. -/
def PlainF (f : Fld) : Prop := (∃ i, f.1 = nameN i) ∧ f.2.size ≤ 11
/-- The fields that requestOf makes. -/
structure ReqF (l : List Fld) : Prop where
  ex : ∃ (p : ByteArray) (qs : List Fld), l = (kMethod, gGET) :: (kPath, p) :: qs ∧ p.size ≤ 10 ∧ qs.length ≤ 5 ∧ ∀ f ∈ qs, PlainF f
theorem nameN_good (i : Int) : nmGood (nameN i) ∧ isP (nameN i) = false := by
  have key : ∀ s : ByteArray, (s = ⟨#[97, 103, 101]⟩ ∨ s = ⟨#[101, 116, 97, 103]⟩ ∨ s = ⟨#[104, 111, 115, 116]⟩ ∨ s = ⟨#[120, 45, 97]⟩ ∨ s = ⟨#[115, 101, 114, 118, 101, 114]⟩) → nmGood s ∧ isP s = false := by
    unfold nmGood
    rintro s (rfl | rfl | rfl | rfl | rfl) <;> exact ⟨⟨by decide, by decide, by decide +kernel⟩, by decide +kernel⟩
  apply key
  unfold nameN
  repeat' split
  all_goals simp
theorem kM_good : nmGood kMethod := ⟨by decide +kernel, by decide +kernel, by decide +kernel⟩
theorem kP_good : nmGood kPath := ⟨by decide +kernel, by decide +kernel, by decide +kernel⟩
theorem nameN_ne (i : Int) : nameN i ≠ kMethod ∧ nameN i ≠ kPath := by
  have h := (nameN_good i).2
  exact ⟨(fun e => by rw [e, kM_p] at h; cases h), (fun e => by rw [e, kP_p] at h; cases h)⟩
theorem plain_getD {qs : List Fld} (h : ∀ f ∈ qs, PlainF f) {j : Nat} (hj : j < qs.length) : ∃ i, (qs.getD j fnil).1 = nameN i := by
  exact (h (qs.getD j fnil) (getD_inF _ _ _ hj)).1
theorem ReqF.ok {l : List Fld} (h : ReqF l) : ReqOk l := by
  obtain ⟨p, qs, rfl, hp, hq, hpl⟩ := h.ex
  refine ⟨⟨?_, ?_⟩, by simp; omega, ?_, ?_, ?_⟩
  · intro j hj
    rcases j with _ | _ | j
    · exact kM_good
    · exact kP_good
    · obtain ⟨i, hi⟩ := plain_getD hpl (j := j) (by simp at hj; omega)
      show nmGood (qs.getD j fnil).1
      rw [hi]; exact (nameN_good i).1
  · intro j hj hP
    rcases j with _ | _ | j
    · exact ⟨.inl rfl, fun k hk => absurd hk (Nat.not_lt_zero _)⟩
    · refine ⟨.inr rfl, fun k hk => ?_⟩
      obtain rfl : k = 0 := by omega
      exact ⟨kM_p, kMP⟩
    · obtain ⟨i, hi⟩ := plain_getD hpl (j := j) (by simp at hj; omega)
      have : isP (qs.getD j fnil).1 = true := hP
      rw [hi, (nameN_good i).2] at this; cases this
  · intro f hf
    rcases List.mem_cons.1 hf with rfl | hf
    · exact ⟨by decide +kernel, by decide +kernel, by decide +kernel⟩
    · rcases List.mem_cons.1 hf with rfl | hf
      · exact ⟨by show 1 ≤ kPath.size; decide +kernel, by show kPath.size ≤ 20; decide +kernel, by show p.size ≤ 40; omega⟩
      · obtain ⟨⟨i, hi⟩, h2⟩ := hpl f hf
        have := nameN_size i
        exact ⟨by rw [hi]; omega, by rw [hi]; omega, by omega⟩
  · unfold hasN; simp
  · unfold hasN; simp
/-- Without the method. -/
theorem ReqF.tail {l : List Fld} (h : ReqF l) : ReqL (l.drop 1) ∧ hasN (l.drop 1) (l.drop 1).length kMethod = false := by
  have hok := h.ok
  obtain ⟨p, qs, rfl, hp, hq, hpl⟩ := h.ex
  constructor
  · refine ⟨fun j hj => hok.names.good (j + 1) (by simp at hj ⊢; omega), fun j hj hP => ?_⟩
    rcases j with _ | j
    · exact ⟨.inr rfl, fun k hk => absurd hk (Nat.not_lt_zero _)⟩
    · obtain ⟨i, hi⟩ := plain_getD hpl (j := j) (by simp at hj; omega)
      have : isP (qs.getD j fnil).1 = true := hP
      rw [hi, (nameN_good i).2] at this; cases this
  · unfold hasN
    rw [List.take_length, List.any_eq_false]
    intro f hf
    rcases List.mem_cons.1 (show f ∈ (kPath, p) :: qs from hf) with rfl | hf
    · simp; exact Ne.symm kMP
    · obtain ⟨⟨i, hi⟩, _⟩ := hpl f hf
      simp
      rw [hi]; exact (nameN_ne i).1
/-- A line of such a field is short. -/
theorem lineF_le (need : Nat) {l : List Fld} (h : ReqF l) : ∀ f ∈ l, f.1.size ≤ 10 ∧ f.2.size ≤ 11 := by
  obtain ⟨p, qs, rfl, hp, hq, hpl⟩ := h.ex
  intro f hf
  rcases List.mem_cons.1 hf with rfl | hf
  · exact ⟨by decide +kernel, by decide +kernel⟩
  · rcases List.mem_cons.1 hf with rfl | hf
    · exact ⟨by show kPath.size ≤ 10; decide +kernel, by show p.size ≤ 11; omega⟩
    · obtain ⟨⟨i, hi⟩, h2⟩ := hpl f hf
      have := nameN_size i
      exact ⟨by rw [hi]; omega, h2⟩
/-- What requestOf answers. -/
def RqOfOut (w : World) (e' : Ending) (w' : World) : Prop := ∃ (L : Option Addr) (m cL : Nat) (fs : List Fld) (B : Option Addr) (bn bc : Nat) (body : List UInt8),
  e' = .returned (.agg #[.slice L m cL, .slice B bn bc]) ∧ ReqF fs ∧ fs.length = m ∧ m ≤ cL ∧ cL ≤ 9223372036854775807 ∧ RdX fcells 2 w' L fs ∧ BV w' B bn bc body ∧ bn ≤ 200 ∧ Below w.heap.size w w'

theorem RdB.setNe {w : World} {A : Option Addr} {bs : List UInt8} (h : RdB w A bs) {g : Nat} (hne : ∀ q, A.map (fun y : Addr => y.block) = some q → q ≠ g) (i : Nat) (u : Value) : RdB (w.setCell ⟨g, i, none⟩ u) A bs :=
  ⟨h.1, fun hn => by
    obtain ⟨b, off, e, hc⟩ := h.2 hn
    subst e
    exact ⟨b, off, rfl, fun j v hv => (World.cell?_of_block (w := w) (Below.heap_setCell w ⟨g, i, none⟩ u b (hne b rfl))).trans (hc j v hv)⟩⟩
/-- A request under way. -/
structure RqT (W wr : World) (gQ : Nat) (L : Option Addr) (m cL : Nat) (fs : List Fld) (BA : Option Addr) (bn bc : Nat) (body : List UInt8) : Prop where
  Q : Blk wr gQ 26 #[.slice L m cL, .slice BA bn bc]
  Z : Blk wr W.heap.size 26 #[.slice none 0 0, .slice none 0 0]
  Lr : OwnX fcells 2 wr (W.heap.size + 1) 47 L cL fs
  b : BV wr BA bn bc body
  loc : ∀ q, BA.map (fun y : Addr => y.block) = some q → W.heap.size + 1 < q ∧ q < gQ
  lo2 : ∀ q, L.map (fun y : Addr => y.block) = some q → q = W.heap.size + 1 ∨ gQ < q
  B : Below W.heap.size W wr
  g : W.heap.size + 1 < gQ
  m_ : fs.length = m
theorem RqT.carry {W w w' : World} {gQ : Nat} {L : Option Addr} {m cL : Nat} {fs : List Fld} {BA : Option Addr} {bn bc : Nat} {body : List UInt8} (h : RqT W w gQ L m cL fs BA bn bc body) (hb : Below w.heap.size w w') : RqT W w' gQ L m cL fs BA bn bc body :=
  ⟨h.Q.carry hb, h.Z.carry hb, h.Lr.carry hb, h.b.below hb, h.loc, h.lo2, h.B.trans (hb.mono h.B.size), h.g, h.m_⟩
theorem RqT.alloc {W w : World} {gQ : Nat} {L : Option Addr} {m cL : Nat} {fs : List Fld} {BA : Option Addr} {bn bc : Nat} {body : List UInt8} (h : RqT W w gQ L m cL fs BA bn bc body) (o : Obj) : RqT W (w.alloc o) gQ L m cL fs BA bn bc body := h.carry ((Below.refl _ _).alloc (Nat.le_refl _) _)
theorem RqT.drew {W w : World} {gQ : Nat} {L : Option Addr} {m cL : Nat} {fs : List Fld} {BA : Option Addr} {bn bc : Nat} {body : List UInt8} (h : RqT W w gQ L m cL fs BA bn bc body) : RqT W w.drew gQ L m cL fs BA bn bc body := h.carry (Below.refl _ _).drew
/-- One field more. -/
theorem RqT.more {W w w' : World} {gQ : Nat} {L : Option Addr} {m cL : Nat} {fs : List Fld} {BA : Option Addr} {bn bc : Nat} {body : List UInt8} (h : RqT W w gQ L m cL fs BA bn bc body) {A' : Option Addr} {c' : Nat} {f : Fld} (hO : OwnX fcells 2 w' (W.heap.size + 1) 47 A' c' (fs ++ [f])) (hb : Below (W.heap.size + 1) w w') (hg : w.grownBy w' (L.map (·.block))) (hat : A'.map (·.block) = L.map (·.block) ∨ A'.map (·.block) = some w.heap.size) :
    RqT W (w'.setCell ⟨gQ, 0, none⟩ (.slice A' (m + 1) c')) gQ A' (m + 1) c' (fs ++ [f]) BA bn bc body := by
  have hgq := h.Q.lt
  have hg1 := h.g
  have hne : some gQ ≠ L.map (fun y : Addr => y.block) := fun e => by rcases h.lo2 gQ e.symm with h1 | h1 <;> omega
  have hnb : ∀ q, BA.map (fun y : Addr => y.block) = some q → some q ≠ L.map (fun y : Addr => y.block) := fun q hq e => by
    have h1 := h.loc q hq
    rcases h.lo2 q e.symm with h2 | h2 <;> omega
  have hlo : ∀ q, A'.map (fun y : Addr => y.block) = some q → q = W.heap.size + 1 ∨ gQ < q := fun q hq => by
    rcases hat with e | e
    · exact h.lo2 q (e ▸ hq)
    · rw [e] at hq; injection hq with hq; omega
  refine ⟨((h.Q.grown hg hne).set_ 0 _).as (by rfl), (h.Z.below hb (by omega)).far (p := ⟨gQ, 0, none⟩) (by show W.heap.size ≠ gQ; omega) _, ?_, ?_, h.loc, hlo, (h.B.trans (hb.mono (by omega))).setCell (p := ⟨gQ, 0, none⟩) (by show W.heap.size ≤ gQ; omega) _, h.g, by rw [List.length_append, h.m_]; rfl⟩
  · exact own_far hO (fun k hk => by rw [slice_own] at hk; rcases hlo k hk with h1 | h1 <;> (show k ≠ gQ; omega)) _
  · have hb2 := h.b
    refine ⟨hb2.hn, hb2.hnc, hb2.hcm, ?_⟩
    obtain ⟨h1, h2⟩ := hb2.rd
    refine ⟨h1, fun hn => ?_⟩
    obtain ⟨b, off, e, hc⟩ := h2 hn
    subst e
    refine ⟨b, off, rfl, fun j v hv => ?_⟩
    have hl := h.loc b rfl
    have hx := hc j v hv
    rw [World.cell?_of_block (w := w') (Below.heap_setCell w' ⟨gQ, 0, none⟩ _ b (by show b ≠ gQ; omega))]
    exact (World.cell?_of_block (hg.block b (World.block_lt_of_cell? w _ hx) (hnb b rfl))).trans hx

set_option maxRecDepth 100000 in
set_option maxHeartbeats 8000000 in
theorem requestOf_any (w : World) (RA : Option Addr) (len cap : Nat) (rs : List RawD) (h : IsRaws w RA len cap rs) (st : ByteArray) (hs : st.size ≤ 9223372036854775807) (n : Int) (n0 : -9223372036854775808 ≤ n) (n1 : n ≤ 9223372036854775807) :
    Calls Try.prog 6 #[.slice RA len cap, .string st, .int .i64 n] w (RqOfOut w) := by
  have hlc := h.2.2.1
  have hcm := h.2.2.2.1
  obtain ⟨K5, hK5⟩ : ∃ K : Nat, min (len : Int) 5 = (K : Int) := ⟨(min (len : Int) 5).toNat, by omega⟩
  have hK55 : K5 ≤ 5 := by omega
  have HRS := Lib.hid (h.front K5 (by omega))
  have HK5 : Hid (∀ W, Calls Try.prog 15 #[.slice RA len cap, .int .i64 5] W fun e w' => e = .returned (.slice RA K5 cap) ∧ W = w') := Lib.hid (fun W => some_any RA len cap K5 5 hlc hcm (by decide) (by decide) hK5 W)
  clear h hK5
  obtain ⟨kb_, HKB, kb0, kb1⟩ := mod_ex n (200 + 1) (by decide)
  obtain ⟨bn, rfl⟩ := Int.eq_ofNat_of_zero_le kb0
  have hbn : bn ≤ 200 := by omega
  obtain ⟨cs, hcs⟩ : ∃ cs, cutS st 9 = cs := ⟨_, rfl⟩
  have hcs9 : cs.size ≤ 9 := by rw [← hcs]; exact cutS_size _ _
  have HCS : Hid (∀ W, Calls Try.prog 13 #[.string st, .int .i64 9] W fun e w' => e = .returned (.string cs) ∧ W = w') := Lib.hid (fun W => by
    have := cut_any st 9 hs (by decide) W
    rw [hcs] at this; exact this)
  clear hcs
  go_enter Try.func6, Try.ntmps6
  go_wp2_with fail
  refine (HCS.out _).mono ?_
  rintro e w1 ⟨rfl, rfl⟩
  go_wp2_with fail
  refine (textR_loc st n 200 bn hs n0 n1 (by decide) (by decide) HKB (by omega) _).mono ?_
  rintro e w2 ⟨BA, bc, body, rfl, hbl, hbc, hbm, hrd, hb2, hloc⟩
  obtain ⟨p, hp⟩ : ∃ p : ByteArray, (ByteArray.mk #[47] ++ cs) = p := ⟨_, rfl⟩
  have hp10 : p.size ≤ 10 := by rw [← hp, ByteArray.size_append]; have : (ByteArray.mk #[47]).size = 1 := rfl; omega
  rw [hp]
  have hZ2 : Blk w2 w.heap.size 26 #[.slice none 0 0, .slice none 0 0] := ((Blk.new _ _ _).alloc _).carry hb2
  have hL2 : Blk w2 (w.heap.size + 1) 47 #[.string kMethod, .string gGET, .string kPath, .string p] := by
    rw [hp] at hb2
    exact (Blk.new1 _ _ _ _).carry hb2
  have hB2 : Below w.heap.size w w2 := (((Below.refl _ _).alloc (Nat.le_refl _) _).alloc (by simp) _).trans (hb2.mono (by simp; omega))
  have hs2 : w.heap.size + 1 + 1 ≤ w2.heap.size := by have := hb2.size; simpa using this
  have hloc2 : ∀ q, BA.map (fun y : Addr => y.block) = some q → w.heap.size + 1 < q ∧ q < w2.heap.size := fun q hq => ⟨by have := (hloc q hq).1; simp at this; omega, (hloc q hq).2⟩
  clear hb2 hloc hp
  go_upto_region 2 with (fail)
  obtain ⟨gQ, hgQ⟩ : ∃ q, w2.heap.size = q := ⟨_, rfl⟩
  refine wp_world (fun w' => RqT w w' gQ (some ⟨w.heap.size + 1, 0, none⟩) 2 2 [(kMethod, gGET), (kPath, p)] BA bn bc body) ⟨Blk.newR hgQ, hZ2.alloc _, ?q1, ⟨hbl, hbc, hbm, RdB.below hrd ((Below.refl _ _).alloc (Nat.le_refl _) _)⟩, by rw [← hgQ]; exact hloc2, (fun q hq => .inl (by injection hq with hq; exact hq.symm)), hB2.alloc hB2.size _, by rw [← hgQ]; omega, rfl⟩ ?_
  case q1 =>
    have h := hL2.own (base := w.heap.size + 1) (size := 2) (n := 2) (Nat.le_refl _) rfl (by decide)
    exact World.ownsRow.alloc h _
  try rw [hgQ]
  clear hZ2 hL2 hB2 hs2 hloc2 hrd hbl hgQ
  rintro w3 hT3
  have HT3 := Lib.hid hT3
  clear hT3
  go_wp2_with fail
  refine (HK5.out _).mono ?_
  rintro e w' ⟨rfl, rfl⟩
  go_wp2_with fail
  go_loopw [23] (fun s23 wr => ∃ (k : Nat) (L : Option Addr) (cL : Nat) (qs : List Fld), k ≤ K5 ∧ s23 = .int .i64 (k : Int) ∧ qs.length = k ∧ (∀ f ∈ qs, PlainF f) ∧ RqT w wr gQ L (2 + k) cL ((kMethod, gGET) :: (kPath, p) :: qs) BA bn bc body) (fun s23 _ => ((K5 : Int) - intOf s23).toNat)
  case atStart => exact ⟨0, _, 2, [], Nat.zero_le _, rfl, rfl, fun f hf => absurd hf List.not_mem_nil, HT3.out⟩
  case round =>
    obtain ⟨k, L, cL, qs, hk, rfl, hqs, hpl, hT⟩ := hrel
    have HT := Lib.hid hT
    have HQS := Lib.hid hqs
    have HPL := Lib.hid hpl
    clear hT hqs hpl HT3
    by_cases hlt : k < K5
    ·
      -- [[step
      obtain ⟨b, off, hRA, hcell⟩ := (HRS.out.keep (w' := wr) HT.out.B).at_ (by omega)
      obtain ⟨c0, c1, c2, c3⟩ := hcell k hlt
      have hro := HRS.out.2.2.2.2 k hlt
      subst hRA
      generalize rs.take K5 = rs' at *
      generalize rs'.getD k rawNone = q at *
      have HRO := Lib.hid hro
      clear hcell hro
      go_upto_region 5 with (fail)
      obtain ⟨gR, hgR⟩ : ∃ q, wr.heap.size = q := ⟨_, rfl⟩
      refine wp_world (fun w' => Blk w' gR 52 #[.int .i64 q.kind, .int .i64 q.a, .int .i64 q.b, .string q.text] ∧ RqT w w' gQ L (2 + k) cL ((kMethod, gGET) :: (kPath, p) :: qs) BA bn bc body) ⟨Blk.newR hgR, HT.out.alloc _⟩ ?_
      try rw [hgR]
      have hgQR : gQ < gR := by have := HT.out.Q.lt; omega
      clear c0 c1 c2 c3 HT hgR
      rintro w4 ⟨hR4, hT4⟩
      have HR4 := Lib.hid hR4
      have HT4 := Lib.hid hT4
      have FR := hR4.facts4
      have FQ := hT4.Q.two
      have hgl := hR4.lt
      have hT4m : ((kMethod, gGET) :: (kPath, p) :: qs).length = 2 + k := hT4.m_
      have HLM := Lib.hid hT4m
      have hw4 : w.heap.size + 1 ≤ w4.heap.size := by have := hT4.g; have := hT4.Q.lt; omega
      clear hR4 hT4 hT4m
      obtain ⟨⟨x, y⟩, hF⟩ : ∃ F, fieldF q = F := ⟨_, rfl⟩
      have hpf : PlainF (x, y) := by rw [← hF]; exact ⟨⟨_, rfl⟩, (fieldF_ok q).2⟩
      have HFO2 : Hid (∀ W, Calls Try.prog 16 #[.agg #[.int .i64 q.kind, .int .i64 q.a, .int .i64 q.b, .string q.text]] W fun e w' => e = .returned (.agg #[.string x, .string y]) ∧ Below W.heap.size W w') := Lib.hid (fun W => fieldOf_any q HRO.out (x, y) hF W)
      clear hF
      go_region_law ((first
        | (refine step_appL fcells 2 fcells_one (by rfl) (.tmp 28) (.tmp 31) _ (by rfl) (w.heap.size + 1) 47 _ 32 Try.underlying23 fldInfo rfl (by decide) (by decide) L (2 + k) cL ((kMethod, gGET) :: (kPath, p) :: qs) (by rfl) HLM.out ((HT4.out.drew.carry hbp).alloc _).Lr _ 1 1 [(x, y)] (by rfl) rfl (RdX.oneH (f := fcells) (m := 2) _ _ (x, y) #[.string x, .string y] rfl rfl (by first | rfl | (simp; done))) _ rfl (2 + k + 1) rfl (by omega) (by first | omega | (simp; omega)) ?_; intro A6 c6 w6 hO6 hc6 hm6 hb6 hgr6 hat6; have hT5 := (HT4.out.drew.carry hbp).alloc (.cells #[.string x, .string y] 47); have FQ6 := (hT5.Q.grown hgr6 (fun e => by rcases hT5.lo2 gQ e.symm with h1 | h1 <;> (have := hT5.g; omega))).two)
        | ((rw [if_pos (by first | rfl | simp [Region.wanted])]); go_simp; go_at_call 16; refine (HFO2.out _).mono ?_; rintro e wp ⟨rfl, hbp⟩; have hsp : w4.heap.size ≤ wp.heap.size := hbp.size; have FQp := (HT4.out.drew.carry hbp).Q.two; have hqp : gQ < wp.heap.size := (HT4.out.drew.carry hbp).Q.lt)))
      all_goals
        go_wp2_with fail
        try go_meet
        refine ⟨⟨k + 1, A6, c6, qs ++ [(x, y)], hlt, rfl, by rw [List.length_append, HQS.out]; rfl, ?_, hT5.more hO6 hb6 hgr6 hat6⟩, ?_⟩
        · intro f hf
          rcases List.mem_append.1 hf with hf | hf
          · exact HPL.out f hf
          · obtain rfl : f = (x, y) := by simpa using hf
            exact hpf
        · simp only [intOf]; omega
      -- ]]step
    ·
      -- [[fin
      obtain rfl : k = K5 := by omega
      have FQ := HT.out.Q.two
      have FZ := HT.out.Z.two
      have hcap := HT.out.Lr.cap
      rw [HT.out.m_] at hcap
      go_wp2_with fail
      refine bodyPost_ret (v := .agg #[.slice L (2 + k) cL, .slice BA bn bc]) ?_ rfl ⟨L, 2 + k, cL, _, BA, bn, bc, body, rfl, ⟨⟨p, qs, rfl, hp10, by rw [HQS.out]; exact hK55, HPL.out⟩⟩, HT.out.m_, hcap.1, hcap.2, ?_, ?_, hbn, ?_⟩
      · simp [results, Try.results6, go_sem, FZ] <;> rfl
      · exact ((HT.out.Lr.set_below (p := ⟨w.heap.size, 0, none⟩) (Nat.lt_succ_self _) _).set_below (p := ⟨w.heap.size, 1, none⟩) (Nat.lt_succ_self _) _).rd
      · have hb := HT.out.b
        exact ⟨hb.hn, hb.hnc, hb.hcm, (hb.rd.setNe (fun q hq => by have := (HT.out.loc q hq).1; omega) 0 _).setNe (fun q hq => by have := (HT.out.loc q hq).1; omega) 1 _⟩
      · have h := HT.out.B
        (repeat (first | with_reducible exact h | with_reducible refine Below.drew ?_ | (with_reducible refine Below.set4 ?_ ?side _ _ _ _; case side => (first | omega | (simp; omega) | (simp; done))) | (with_reducible refine Below.setCell ?_ ?side _; case side => (first | omega | (simp; omega) | (simp; done))) | (with_reducible refine Below.alloc ?_ ?side _; case side => (first | omega | (simp; omega) | (simp; done)))))
      -- ]]fin
end Go.Proofs.Ytihngonemdaihaa
/- Plain: what a reader comes to that is fed a request's bytes. -/
namespace Go.Proofs.Ytihngonemdaihaa
open Go.ChangeShapes Go.WideShapes Go.ChangeAt Go.RowKit
set_option linter.unusedVariables false

theorem frmB_enc (k : Nat) (hk : k ≤ 1) (bs : List UInt8) : frmB k bs = encB k ++ (encB bs.length ++ bs) := by
  have : encB k = [UInt8.ofNat k] := by
    rcases Nat.le_one_iff_eq_zero_or_eq_one.1 hk with rfl | rfl <;> decide +kernel
  unfold frmB
  rw [this]; rfl
theorem next_frm (k : Nat) (hk : k ≤ 1) (bs more : List UInt8) (h : bs.length ≤ 400) : nextR (frmB k bs ++ more) = ((k : Int), bs, ((frmB k bs).length : Int), 0) := by
  rw [frmB_enc k hk bs]
  have e1 : encB k ++ (encB bs.length ++ bs) ++ more = encB k ++ (encB bs.length ++ (bs ++ more)) := by simp
  rw [e1]
  unfold nextR
  rw [dec_back k (by omega) _]
  simp only [Int.toNat_natCast, List.drop_left]
  rw [dec_back bs.length (by omega) _]
  simp only [Int.toNat_natCast]
  rw [if_neg (by simp), if_neg (by simp), if_neg (by omega), if_neg (by simp [List.length_append]; omega)]
  have e2 : (encB k ++ (encB bs.length ++ (bs ++ more))).drop ((encB k).length + (encB bs.length).length) = bs ++ more := by
    rw [← List.drop_drop, List.drop_left, List.drop_left]
  rw [e2]
  simp [List.length_append]
  omega
theorem next_cut (k : Nat) (hk : k ≤ 1) (bs : List UInt8) (h : bs.length ≤ 400) (i : Nat) (hi : i < (frmB k bs).length) : nextR ((frmB k bs).take i) = (0, [], 0, 4) := by
  have hlen : (frmB k bs).length = (encB k).length + ((encB bs.length).length + bs.length) := by rw [frmB_enc k hk bs]; simp
  rw [frmB_enc k hk bs]
  by_cases h1 : i < (encB k).length
  · rw [List.take_append_of_le_length (by omega)]
    unfold nextR
    rw [dec_cut k (by omega) i h1, if_pos (by simp)]
  · obtain ⟨j, rfl⟩ : ∃ j, i = (encB k).length + j := ⟨i - (encB k).length, by omega⟩
    rw [List.take_length_add_append]
    unfold nextR
    rw [dec_back k (by omega) _]
    simp only [Int.toNat_natCast, List.drop_left]
    rw [if_neg (by simp)]
    by_cases h2 : j < (encB bs.length).length
    · rw [List.take_append_of_le_length (by omega), dec_cut bs.length (by omega) j h2, if_pos (by simp)]
    · obtain ⟨q, rfl⟩ : ∃ q, j = (encB bs.length).length + q := ⟨j - (encB bs.length).length, by omega⟩
      rw [List.take_length_add_append, dec_back bs.length (by omega) _]
      simp only [Int.toNat_natCast]
      rw [if_neg (by simp), if_neg (by omega), if_pos (by simp [List.length_append, List.length_take]; omega)]

section
variable (S B : List UInt8) (out : List Fld)
/-- The body's frame. -/
def bodF : List UInt8 := if B.length = 0 then [] else frmB 0 B
theorem bodF_le (hB : B.length ≤ 16383) : (bodF B).length ≤ 3 + B.length := by
  unfold bodF
  split
  · simp
  · exact (frmB_len 0 B hB).2
/-- What the reader is behind the first bytes. -/
def rdAt (fin : Bool) (i : Nat) : RdrD :=
  if i < (frmB 1 S).length then ⟨(frmB 1 S ++ bodF B).take i, [], false, [], false⟩ else
  if i < (frmB 1 S ++ bodF B).length then ⟨(bodF B).take (i - (frmB 1 S).length), out, true, [], false⟩ else ⟨[], out, true, B, fin⟩
theorem feed_end (E : Int) (fin : Bool) (k : Nat) (en : Bool) : feedGo S out E fin (k + 1) ⟨[], out, true, B, en⟩ = some (⟨[], out, true, B, fin⟩, 0) := by
  unfold feedGo
  dsimp only
  rw [if_pos (show ([] : List UInt8).length = 0 from rfl), if_neg (by simp)]
theorem feed_body (hB : B.length ≤ 200) (E : Int) (fin : Bool) (k m : Nat) (hm : m ≤ (bodF B).length) (hf : fin = true → m = (bodF B).length) : feedGo S out E fin (k + 2) ⟨(bodF B).take m, out, true, [], false⟩ = some (if m < (bodF B).length then ⟨(bodF B).take m, out, true, [], false⟩ else ⟨[], out, true, B, fin⟩, 0) := by
  by_cases h0 : B.length = 0
  · have hB0 : B = [] := List.length_eq_zero_iff.1 h0
    subst hB0
    have e : bodF [] = [] := rfl
    rw [e]
    simp only [List.take_nil]
    rw [if_neg (by simp), feed_end]
  · have e : bodF B = frmB 0 B := by unfold bodF; rw [if_neg h0]
    rw [e] at hm hf ⊢
    have h2 := (frmB_len 0 B (by omega)).1
    by_cases hlt : m < (frmB 0 B).length
    · obtain rfl : fin = false := by cases fin with | false => rfl | true => exact absurd (hf rfl) (by omega)
      rw [if_pos hlt]
      unfold feedGo
      dsimp only
      by_cases hm0 : m = 0
      · subst hm0
        rw [if_pos (by simp), if_neg (by simp)]
      · rw [if_neg (by rw [List.length_take]; omega), next_cut 0 (by decide) B (by omega) m hlt, if_pos ⟨rfl, rfl⟩]
    · rw [if_neg hlt, List.take_of_length_le (by omega)]
      unfold feedGo
      dsimp only
      have hn := next_frm 0 (by decide) B [] (by omega)
      rw [List.append_nil] at hn
      rw [if_neg (by omega), hn]
      dsimp only
      rw [if_neg (by simp), if_neg (by simp), if_neg (by simp), if_neg (by simp), if_pos (by rfl), if_pos (by simp; omega), Int.toNat_natCast, List.drop_length]
      exact feed_end S ([] ++ B) out E fin k false
theorem feed_all (hS : S.length ≤ 400) (hB : B.length ≤ 200) (fin : Bool) (k i : Nat) (hi : i ≤ (frmB 1 S ++ bodF B).length) (hf : fin = true → i = (frmB 1 S ++ bodF B).length) : feedGo S out 0 fin (k + 3) ⟨(frmB 1 S ++ bodF B).take i, [], false, [], false⟩ = some (rdAt S B out fin i, 0) := by
  have h2 := (frmB_len 1 S (by omega)).1
  have hl : (frmB 1 S ++ bodF B).length = (frmB 1 S).length + (bodF B).length := List.length_append
  unfold rdAt
  by_cases h1 : i < (frmB 1 S).length
  · obtain rfl : fin = false := by cases fin with | false => rfl | true => exact absurd (hf rfl) (by omega)
    rw [if_pos h1, List.take_append_of_le_length (by omega)]
    unfold feedGo
    dsimp only
    by_cases hi0 : i = 0
    · subst hi0
      rw [if_pos (by simp), if_neg (by simp)]
    · rw [if_neg (by rw [List.length_take]; omega), next_cut 1 (by decide) S hS i h1, if_pos ⟨rfl, rfl⟩]
  · rw [if_neg h1]
    obtain ⟨m, rfl⟩ : ∃ m, i = (frmB 1 S).length + m := ⟨i - (frmB 1 S).length, by omega⟩
    rw [List.take_length_add_append, Nat.add_sub_cancel_left]
    unfold feedGo
    dsimp only
    rw [if_neg (by rw [List.length_append]; omega), next_frm 1 (by decide) S _ hS]
    dsimp only
    rw [if_neg (by simp), if_neg (by simp), if_neg (by simp), if_pos (by rfl), if_pos rfl, if_neg (by decide), if_pos rfl, Int.toNat_natCast, List.drop_left]
    rw [feed_body S B out hB 0 fin k m (by omega) (fun h => by have := hf h; omega)]
    by_cases h3 : m < (bodF B).length
    · rw [if_pos h3, if_pos (by omega)]
    · rw [if_neg h3, if_neg (by omega)]
/-- Fed on from one place to another. -/
theorem feed_on (hS : S.length ≤ 400) (hB : B.length ≤ 200) (fin : Bool) (k i j : Nat) (hij : i ≤ j) (hj : j ≤ (frmB 1 S ++ bodF B).length) (hf : fin = true → j = (frmB 1 S ++ bodF B).length) :
    feedGo S out 0 fin (k + 3) ⟨(rdAt S B out false i).held ++ ((frmB 1 S ++ bodF B).drop i).take (j - i), (rdAt S B out false i).fs, (rdAt S B out false i).bg, (rdAt S B out false i).body, false⟩ = some (rdAt S B out fin j, 0) := by
  have hl : (frmB 1 S ++ bodF B).length = (frmB 1 S).length + (bodF B).length := List.length_append
  have ht : (frmB 1 S ++ bodF B).take i ++ ((frmB 1 S ++ bodF B).drop i).take (j - i) = (frmB 1 S ++ bodF B).take j := by
    rw [← List.take_add, Nat.add_sub_cancel' hij]
  by_cases h1 : i < (frmB 1 S).length
  · have e : rdAt S B out false i = ⟨(frmB 1 S ++ bodF B).take i, [], false, [], false⟩ := by unfold rdAt; rw [if_pos h1]
    rw [e]
    dsimp only
    rw [ht]
    exact feed_all S B out hS hB fin k j hj hf
  · by_cases h2 : i < (frmB 1 S ++ bodF B).length
    · have e : rdAt S B out false i = ⟨(bodF B).take (i - (frmB 1 S).length), out, true, [], false⟩ := by unfold rdAt; rw [if_neg h1, if_pos h2]
      rw [e]
      dsimp only
      obtain ⟨m, rfl⟩ : ∃ m, i = (frmB 1 S).length + m := ⟨i - (frmB 1 S).length, by omega⟩
      obtain ⟨q, rfl⟩ : ∃ q, j = (frmB 1 S).length + m + q := ⟨j - ((frmB 1 S).length + m), by omega⟩
      rw [← List.drop_drop, List.drop_left, Nat.add_sub_cancel_left, Nat.add_sub_cancel_left, ← List.take_add]
      rw [feed_body S B out hB 0 fin (k + 1) (m + q) (by omega) (fun h => by have := hf h; omega)]
      have e2 : rdAt S B out fin ((frmB 1 S).length + m + q) = if (frmB 1 S).length + m + q < (frmB 1 S ++ bodF B).length then ⟨(bodF B).take (m + q), out, true, [], false⟩ else ⟨[], out, true, B, fin⟩ := by
        unfold rdAt
        rw [if_neg (by omega), show (frmB 1 S).length + m + q - (frmB 1 S).length = m + q by omega]
      rw [e2]
      by_cases h3 : m + q < (bodF B).length
      · rw [if_pos h3, if_pos (by omega)]
      · rw [if_neg h3, if_neg (by omega)]
    · have e : ∀ f, rdAt S B out f i = ⟨[], out, true, B, f⟩ := fun f => by unfold rdAt; rw [if_neg h1, if_neg h2]
      obtain rfl : i = j := by omega
      rw [e, e]
      dsimp only
      rw [Nat.sub_self, List.take_zero, List.append_nil]
      exact feed_end S B out 0 fin (k + 2) false
theorem rdAt_end (fin : Bool) : rdAt S B out fin (frmB 1 S ++ bodF B).length = ⟨[], out, true, B, fin⟩ := by
  unfold rdAt
  rw [if_neg (by rw [List.length_append]; omega), if_neg (by omega)]
theorem rdAt_ok (hS : S.length ≤ 400) (hB : B.length ≤ 200) (ho : out.length ≤ 8) (i : Nat) : (rdAt S B out false i).en = false ∧ (rdAt S B out false i).held.length ≤ 800 ∧ (rdAt S B out false i).fs.length ≤ 8 ∧ (rdAt S B out false i).body.length ≤ 200 := by
  have h1 := (frmB_len 1 S (by omega)).2
  have h2 := (frmB_len 0 B (by omega)).2
  have h3 := bodF_le B (by omega)
  have hl : (frmB 1 S ++ bodF B).length = (frmB 1 S).length + (bodF B).length := List.length_append
  unfold rdAt
  split
  · exact ⟨rfl, by simp only [List.length_take]; omega, by simp, by simp⟩
  · split
    · exact ⟨rfl, by simp only [List.length_take]; omega, ho, by simp⟩
    · exact ⟨rfl, by simp, ho, hB⟩
/-- It waits. -/
theorem feed_wait (hS : S.length ≤ 400) (fin : Bool) (k : Nat) (o : List Fld) : feedGo S o 14 fin (k + 1) ⟨frmB 1 S ++ bodF B, [], false, [], false⟩ = some (⟨frmB 1 S ++ bodF B, [], false, [], false⟩, 14) := by
  have h2 := (frmB_len 1 S (by omega)).1
  unfold feedGo
  dsimp only
  rw [if_neg (by rw [List.length_append]; omega), next_frm 1 (by decide) S _ hS]
  dsimp only
  rw [if_neg (by simp), if_neg (by simp), if_neg (by simp), if_pos (by rfl), if_pos rfl, if_pos rfl]
/-- A body ahead. -/
theorem feed_ahead (X : List UInt8) (fin : Bool) (k : Nat) : feedGo S out 0 fin (k + 1) ⟨[0, 1, 65] ++ X, [], false, [], false⟩ = some (rdr0, 3) := by
  have e : ([0, 1, 65] : List UInt8) ++ X = frmB 0 [65] ++ X := by
    have : frmB 0 [65] = [0, 1, 65] := by decide +kernel
    rw [this]
  rw [e]
  unfold feedGo
  dsimp only
  have h2 := (frmB_len 0 [65] (by decide)).1
  rw [if_neg (by rw [List.length_append]; omega), next_frm 0 (by decide) [65] _ (by decide)]
  dsimp only
  rw [if_neg (by simp), if_neg (by simp), if_pos (.inr ⟨rfl, rfl⟩)]
/-- Fields twice. -/
theorem feed_twice (hS : S.length ≤ 400) (hB : B.length ≤ 200) (fin : Bool) (k : Nat) : feedGo S out 0 fin (k + 3) ⟨(frmB 1 S ++ bodF B) ++ (frmB 1 S ++ bodF B), [], false, [], false⟩ = some (rdr0, 3) := by
  have h1 := (frmB_len 1 S (by omega)).1
  have key : ∀ q body, feedGo S out 0 fin (q + 1) ⟨frmB 1 S ++ bodF B, out, true, body, false⟩ = some (rdr0, 3) := fun q body => by
    unfold feedGo
    dsimp only
    rw [if_neg (by rw [List.length_append]; omega), next_frm 1 (by decide) S _ hS]
    dsimp only
    rw [if_neg (by simp), if_neg (by simp), if_pos (.inl ⟨rfl, rfl⟩)]
  rw [List.append_assoc]
  unfold feedGo
  dsimp only
  rw [if_neg (by rw [List.length_append]; omega), next_frm 1 (by decide) S _ hS]
  dsimp only
  rw [if_neg (by simp), if_neg (by simp), if_neg (by simp), if_pos (by rfl), if_pos rfl, if_neg (by decide), if_pos rfl, Int.toNat_natCast, List.drop_left]
  by_cases h0 : B.length = 0
  · have e : bodF B = [] := by unfold bodF; rw [if_pos h0]
    have := key (k + 1) []
    rw [e] at this ⊢
    exact this
  · have e : bodF B = frmB 0 B := by unfold bodF; rw [if_neg h0]
    have h2 := (frmB_len 0 B (by omega)).1
    rw [← e] at h2
    have hn := next_frm 0 (by decide) B (frmB 1 S ++ bodF B) (by omega)
    rw [← e] at hn
    unfold feedGo
    dsimp only
    rw [if_neg (by rw [List.length_append]; omega), hn]
    dsimp only
    rw [if_neg (by simp), if_neg (by simp), if_neg (by simp), if_neg (by simp), if_pos (by rfl), if_pos (by simp; omega), Int.toNat_natCast, List.drop_left]
    exact key k _
/-- Cut short by one. -/
theorem feed_short (hS : S.length ≤ 400) (hB : B.length ≤ 200) (k : Nat) : feedGo S out 0 true (k + 2) ⟨(frmB 1 S ++ bodF B).take ((frmB 1 S ++ bodF B).length - 1), [], false, [], false⟩ = some (rdr0, 4) := by
  have h1 := (frmB_len 1 S (by omega)).1
  by_cases h0 : B.length = 0
  · have e : bodF B = [] := by unfold bodF; rw [if_pos h0]
    rw [e, List.append_nil]
    unfold feedGo
    dsimp only
    rw [if_neg (by rw [List.length_take]; omega), next_cut 1 (by decide) S hS _ (by omega), if_neg (by simp), if_pos (by simp)]
  · have e : bodF B = frmB 0 B := by unfold bodF; rw [if_neg h0]
    have h2 := (frmB_len 0 B (by omega)).1
    rw [e, show (frmB 1 S ++ frmB 0 B).length - 1 = (frmB 1 S).length + ((frmB 0 B).length - 1) by rw [List.length_append]; omega, List.take_length_add_append]
    unfold feedGo
    dsimp only
    rw [if_neg (by rw [List.length_append]; omega), next_frm 1 (by decide) S _ hS]
    dsimp only
    rw [if_neg (by simp), if_neg (by simp), if_neg (by simp), if_pos (by rfl), if_pos rfl, if_neg (by decide), if_pos rfl, Int.toNat_natCast, List.drop_left]
    unfold feedGo
    dsimp only
    rw [if_neg (by rw [List.length_take]; omega), next_cut 0 (by decide) B (by omega) _ (by omega), if_neg (by simp), if_pos (by simp)]
theorem feed_none (k : Nat) : feedGo S out 0 true (k + 1) ⟨[], [], false, [], false⟩ = some (rdr0, 4) := by
  unfold feedGo
  dsimp only
  rw [if_pos (show ([] : List UInt8).length = 0 from rfl), if_pos ⟨rfl, rfl⟩]
end
/-- A line of a short field. -/
theorem lineB_le24 (need : Nat) (f : Fld) (h1 : f.1.size ≤ 10) (h2 : f.2.size ≤ 11) (ref : Int) : (lineB need f ref).length ≤ 24 := by
  have a1 := (pEnc_len 6 192 (knownR f).1).2
  have a2 := (pEnc_len 6 128 (need - 1 - ref.toNat)).2
  have a3 := (pEnc_len 4 64 (knownR f).1).2
  have a5 : (pEnc 7 0 f.2.size).length = 1 := by unfold pEnc; rw [if_pos (by omega)]; rfl
  have a4 : (pEnc 3 32 f.1.size).length ≤ 2 := by
    unfold pEnc
    split
    · simp
    · have : f.1.size - (2 ^ 3 - 1) ≤ 3 := by omega
      unfold grpF
      rw [if_pos (by omega)]; simp
  unfold lineB
  split
  · omega
  · split
    · omega
    · split
      · rw [List.length_append, txtB_len]; omega
      · rw [List.length_append, txtB_len, txtB_len]; omega
theorem linesB_le24 (need : Nat) : ∀ (ps : List (Fld × Int)), (∀ p ∈ ps, p.1.1.size ≤ 10 ∧ p.1.2.size ≤ 11) → (linesB need ps).length ≤ ps.length * 24
  | [], _ => by simp [linesB]
  | p :: ps, h => by
    rw [linesB_cons, List.length_append]
    have hp := h p List.mem_cons_self
    have h1 := lineB_le24 need p.1 hp.1 hp.2 p.2
    have h2 := linesB_le24 need ps fun g hg => h g (List.mem_cons_of_mem _ hg)
    simp only [List.length_cons]
    omega
theorem reqB_all (need : Nat) (ps : List (Fld × Int)) (body : List UInt8) : reqB need ps body = frmB 1 (secB need ps) ++ bodF body := rfl
theorem sec_le (need : Nat) (ps : List (Fld × Int)) {fs : List Fld} (h : ReqF fs) (e : ps.map Prod.fst = fs) : (secB need ps).length ≤ 178 := by
  have h1 := linesB_le24 need ps (fun p hp => lineF_le need h p.1 (e ▸ List.mem_map_of_mem hp))
  have h2 := (pEnc_len 8 0 need).2
  have h3 : ps.length = fs.length := by rw [← e, List.length_map]
  have h4 : fs.length ≤ 7 := by
    obtain ⟨p, qs, rfl, hp, hq, hpl⟩ := h.ex
    simp; omega
  unfold secB
  rw [List.length_append]
  omega
theorem req_le (need : Nat) (ps : List (Fld × Int)) (body : List UInt8) {fs : List Fld} (h : ReqF fs) (e : ps.map Prod.fst = fs) (hb : body.length ≤ 200) : (reqB need ps body).length ≤ 384 := by
  have h1 := sec_le need ps h e
  have h2 := (frmB_len 1 (secB need ps) (by omega)).2
  have h3 := (frmB_len 0 body (by omega)).2
  have h4 := bodF_le body (by omega)
  rw [reqB_all, List.length_append]
  omega
end Go.Proofs.Ytihngonemdaihaa
/- Write with a new table, said for the laws. -/
namespace Go.Proofs.Ytihngonemdaihaa
open Go.ChangeShapes Go.WideShapes Go.ChangeAt Go.RowKit
set_option linter.unusedVariables false

/-- A new table. -/
theorem tabNew (w : World) (r : Nat) (hr : r ≤ 160) : TabV w (r : Int) 0 none 0 0 [] :=
  ⟨rfl, Nat.le_refl _, by decide, by omega, by omega, by decide, by decide, fun f hf => absurd hf List.not_mem_nil, by simp [tsz], RdX.nil⟩
/-- What Write answers with a new table: S is the section. -/
def WrNew (w : World) (r : Nat) (ah : Bool) (fs : List Fld) (body : List UInt8) (e' : Ending) (w' : World) : Prop :=
  ∃ (A : Option Addr) (n c : Nat) (A1 : Option Addr) (n1 c1 : Nat) (A2 : Option Addr) (n2 c2 T : Nat) (told : List Fld) (S : List UInt8),
    e' = .returned (.tuple #[.agg #[.int .i64 (r : Int), .int .i64 (T : Int), .slice A n c], .slice A1 n1 c1, .slice A2 n2 c2, .int .i64 0]) ∧ T ≤ 8 ∧ S.length ≤ 178 ∧ n2 ≤ 384 ∧ 0 < n2 ∧ (ah = false → T = 0) ∧ fdecR (T : Int) told S = (fs, 0) ∧ ((T = 0 ∧ fdecR 0 [] S = (fs, 0)) ∨ (0 < T ∧ fdecR 0 [] S = ([], 14))) ∧ TabV w' (r : Int) (T : Int) A n c told ∧ BV w' A2 n2 c2 (frmB 1 S ++ bodF body) ∧ Below w.heap.size w w'
theorem rWrite_new (w : World) (r : Nat) (hr : r ≤ 160) (ah : Bool) (L : Option Addr) (m cL : Nat) (fs : List Fld) (hm : fs.length = m) (hc1 : m ≤ cL) (hc2 : cL ≤ 9223372036854775807) (hrd : RdX fcells 2 w L fs) (hok : ReqF fs)
    (B : Option Addr) (bn bc : Nat) (body : List UInt8) (hB : BV w B bn bc body) (hb200 : bn ≤ 200) :
    Calls Try.prog 7 #[.agg #[.int .i64 (r : Int), .int .i64 0, .slice none 0 0], .agg #[.slice L m cL, .slice B bn bc], .bool ah] w (WrNew w r ah fs body) := by
  refine (rWrite_any w r 0 none 0 0 [] (tabNew w r hr) ah L m cL fs hm hc1 hc2 hrd hok.ok B bn bc body hB hb200).mono ?_
  rintro e w' ⟨A, n, c, A1, n1, c1, A2, n2, c2, told, need, ps, rfl, hQ, hV, hBV, hb⟩
  have h1 := hQ.tl
  have h2 := hok.ok.few
  have hps : ps.length ≤ 8 := by
    have : ps.length = fs.length := by rw [← hQ.fst, List.length_map]
    omega
  have hsz := req_le need ps body hok hQ.fst (by rw [hB.hn]; exact hb200)
  rw [hBV.hn] at hsz
  have hf := hQ.fok
  have hz : (0 : Int) + (told.length : Int) = (told.length : Int) := by omega
  have hdec1 : fdecR (told.length : Int) told (secB need ps) = (fs, 0) := by
    have h := fdec_back (0 + (told.length : Int)) ([] ++ told) need hQ.nd hQ.fit ps hps hQ.ok
    rw [hQ.fst, hz] at h
    exact h
  rw [hz] at hV ⊢
  refine ⟨A, n, c, A1, n1, c1, A2, n2, c2, told.length, told, secB need ps, rfl, by omega, sec_le need ps hok hQ.fst, hsz, ?_, fun h => by rw [hQ.off h]; rfl, hdec1, ?_, hV, hBV, hb⟩
  · rw [← hBV.hn, reqB_all, List.length_append]
    have := (frmB_len 1 (secB need ps) (by have := sec_le need ps hok hQ.fst; omega)).1
    omega
  · by_cases h0 : told = []
    · subst h0
      exact .inl ⟨rfl, hdec1⟩
    · exact .inr ⟨List.length_pos_iff.2 h0, fdec_wait 0 [] need (hQ.yes h0) (by have h3 := hQ.nd; have h4 := hQ.fit; omega) ps⟩
end Go.Proofs.Ytihngonemdaihaa
/- The contract of request.Feed. -/
namespace Go.Proofs.Ytihngonemdaihaa
open Go.ChangeShapes Go.WideShapes Go.ChangeAt Go.RowKit
set_option linter.unusedVariables false

set_option maxRecDepth 100000 in
set_option maxHeartbeats 16000000 in
theorem rFeed_any (w : World) (room put : Int) (TA : Option Addr) (tn tc : Nat) (l : List Fld) (hV : TabV w room put TA tn tc l) (HA : Option Addr) (hn hc : Nat) (FA : Option Addr) (fn fc : Nat) (BA : Option Addr) (bn bc : Nat) (r0 : RdrD) (hR : RdrV w HA hn hc r0.held FA fn fc r0.fs BA bn bc r0.body) (hen : r0.en = false) (h1 : hn ≤ 800) (h2 : fn ≤ 8) (h3 : bn ≤ 200)
    (X : Option Addr) (m d : Nat) (more : List UInt8) (hX : BV w X m d more) (hm : m ≤ 800) (fin : Bool) (sec : List UInt8) (out : List Fld) (E : Int) (hD : fdecR put l sec = (out, E)) (hok : E = 0 → ReqOk out) (k : Nat) (r' : RdrD) (E' : Int) (hF : feedGo sec out E fin k ⟨r0.held ++ more, r0.fs, r0.bg, r0.body, false⟩ = some (r', E')) :
    Calls Try.prog 9 #[.agg #[.slice HA hn hc, .slice FA fn fc, .bool r0.bg, .slice BA bn bc, .bool r0.en], .agg #[.int .i64 room, .int .i64 put, .slice TA tn tc], .slice X m d, .bool fin] w (FeedOut w r' E') := by
  obtain ⟨held, fs, bg, body, en⟩ := r0
  dsimp only at hR hen hF ⊢
  subst hen
  have HV := Lib.hid hV
  have HR := Lib.hid hR
  have HX := Lib.hid hX
  have HD := Lib.hid hD
  have HOK := Lib.hid hok
  have HF := Lib.hid hF
  have HHN : Hid (held.length = hn) := Lib.hid hR.h.hn
  have HMN : Hid (more.length = m) := Lib.hid hX.hn
  clear hV hR hX hD hok hF
  have d1 : decide ((800 : Int) < (hn : Int)) = false := decide_eq_false (by omega)
  have d1' : decide (800 < hn) = false := decide_eq_false (by omega)
  have d2 : decide ((200 : Int) < (bn : Int)) = false := decide_eq_false (by omega)
  have d2' : decide (200 < bn) = false := decide_eq_false (by omega)
  have d3 : decide ((800 : Int) < (m : Int)) = false := decide_eq_false (by omega)
  have d3' : decide (800 < m) = false := decide_eq_false (by omega)
  go_enter Try.func9, Try.ntmps9
  go_upto_region 1 with (fail)
  refine wp_world (fun w' => Blk w' w.heap.size 35 #[.slice HA hn hc, .slice FA fn fc, .bool bg, .slice BA bn bc, .bool false] ∧ Blk w' (w.heap.size + 1) 29 #[.int .i64 room, .int .i64 put, .slice TA tn tc] ∧ Blk w' (w.heap.size + 1 + 1) 35 #[.slice none 0 0, .slice none 0 0, .bool false, .slice none 0 0, .bool false] ∧ Below w.heap.size w w') ⟨((Blk.new _ _ _).alloc _).alloc _, (Blk.new1 _ _ _ _).alloc _, Blk.new2 _ _ _ _ _, (((Below.refl _ _).alloc (Nat.le_refl _) _).alloc (by simp) _).alloc (by simp; omega) _⟩ ?_
  rintro w1 ⟨hR1, hT1, hZ1, hb1⟩
  have FR := hR1.facts5R
  have HR1 := Lib.hid hR1
  have HT1 := Lib.hid hT1
  have HZ1 := Lib.hid hZ1
  have HB1 := Lib.hid hb1
  have hz1 := hZ1.lt
  clear hR1 hT1 hZ1 hb1
  go_wp2_with fail
  refine (rFresh_any _ HA hn hc held FA fn fc fs bg BA bn bc body false (HR.out.below HB1.out) (by omega) h2 (by omega)).mono ?_
  rintro e w2 ⟨HA2, hc2, FA2, fc2, BA2, bc2, rfl, hO2, hb2⟩
  have HR2 := Lib.hid (HR1.out.carry hb2)
  have HT2 := Lib.hid (HT1.out.carry hb2)
  have HZ2 := Lib.hid (HZ1.out.carry hb2)
  have HB2 := Lib.hid (HB1.out.trans (hb2.mono HB1.out.size))
  have hO2' := hO2.mono (base' := w.heap.size + 1 + 1 + 1) (by omega)
  have HO2 := Lib.hid hO2'
  have FR2 := HR2.out.facts5R
  clear FR HR1 HT1 HZ1 HB1 hO2 hb2 hO2' d1 d1' d2 d2' d3 d3'
  go_upto_region 6 with (fail)
  refine wp_world (fun w' => FdT w w' room put TA tn tc HA2 hn hc2 FA2 fn fc2 BA2 bn bc2 ⟨held, fs, bg, body, false⟩) ⟨HR2.out.set5 _ _ _ _ _, HT2.out.far5 (by omega) _ _ _ _ _, HZ2.out.far5 (by omega) _ _ _ _ _, HO2.out.set5 (by omega) _ _ _ _ _, Below.set5 HB2.out (Nat.le_refl _) _ _ _ _ _, by omega, h2, h3⟩ ?_
  clear HR2 HT2 HZ2 HB2 HO2 FR2
  rintro w3 hT3
  have HT3 := Lib.hid hT3
  have FR3 := hT3.R.facts5R
  have HX3 := Lib.hid (HX.out.below hT3.B).rd
  have hs3 : w.heap.size + 1 + 1 + 1 ≤ w3.heap.size := by have := hT3.Z.lt; omega
  clear hT3
  go_upto_region 7 with (at_builtin; refine wpList_appL u8c 1 u8c_one _ rfl (.tmp 37) (.tmp 38) _ rfl (w.heap.size + 1 + 1 + 1) 5 _ 1 Try.underlying24 u8_infoP rfl (by decide) (by decide) HA2 hn hc2 held rfl HHN.out HT3.out.O.h X m d more rfl HMN.out HX3.out.x (held ++ more) rfl (hn + m) rfl (by omega) hs3 ?_; intro A5 c5 w5 hO5 hc5 hm5 hb5 hgr5 hat5; have FR5 := (HT3.out.R.below hb5 (by omega)).facts5R)
  have hrow : HA2.map (fun y : Addr => y.block) = none ∨ HA2.map (fun y : Addr => y.block) ≠ none := by cases HA2 <;> simp
  have hX5 : RdrO w5 (w.heap.size + 1 + 1 + 1) A5 (hn + m) c5 (held ++ more) FA2 fn fc2 fs BA2 bn bc2 body := by
    have hO := HT3.out.O
    refine ⟨hO5, hO.f.grown hgr5 ?_, hO.b.grown hgr5 ?_, ?_, by rw [List.length_append, HHN.out, HMN.out], hO.fn_, hO.bn_⟩
    · cases hA : FA2.map (fun y : Addr => y.block) with
      | none => exact .inl rfl
      | some q => exact .inr fun e => OwnX.kinds hO.f hO.h (by decide) q hA e.symm
    · cases hA : BA2.map (fun y : Addr => y.block) with
      | none => exact .inl rfl
      | some q => exact .inr fun e => hO.ap q e.symm hA
    · intro q hq hq'
      rcases hat5 with e | e
      · rw [e] at hq; exact hO.ap q hq hq'
      · rw [e] at hq; injection hq with hq
        have := (hO.b.lt (n := 0) q (by rw [slice_own]; exact hq')).2
        omega
  refine wp_world (fun w' => FdT w w' room put TA tn tc A5 (hn + m) c5 FA2 fn fc2 BA2 bn bc2 ⟨held ++ more, fs, bg, body, false⟩) ⟨?q1, ?q2, ?q3, ?q4, ?q5, by omega, h2, h3⟩ ?_
  case q1 => exact ((HT3.out.R.below hb5 (by omega)).set_ 0 _).as (by rfl)
  case q2 => exact (HT3.out.T.below hb5 (by omega)).far (p := ⟨w.heap.size, 0, none⟩) (by show w.heap.size + 1 ≠ w.heap.size; omega) _
  case q3 => exact (HT3.out.Z.below hb5 (by omega)).far (p := ⟨w.heap.size, 0, none⟩) (by show w.heap.size + 1 + 1 ≠ w.heap.size; omega) _
  case q4 => exact hX5.set (p := ⟨w.heap.size, 0, none⟩) (by show w.heap.size < _; omega) _
  case q5 => exact (HT3.out.B.trans (hb5.mono (by omega))).setCell (p := ⟨w.heap.size, 0, none⟩) (Nat.le_refl _) _
  clear hX5 hO5 hb5 hgr5 hat5 FR5 FR3 HT3 HX3 hrow hc5 hm5
  rintro w6 hT6
  have HT6 := Lib.hid hT6
  clear hT6
  go_loopw [13] (fun s13 wr => ∃ (kk : Nat) (r : RdrD) (HA : Option Addr) (hn hc : Nat) (FA : Option Addr) (fn fc : Nat) (BA : Option Addr) (bn bc : Nat), r.en = false ∧ feedGo sec out E fin kk r = some (r', E') ∧ FdT w wr room put TA tn tc HA hn hc FA fn fc BA bn bc r) (fun s13 wr => rdrLen wr w.heap.size)
  case atStart => exact ⟨k, _, A5, hn + m, c5, FA2, fn, fc2, BA2, bn, bc2, rfl, HF.out, HT6.out⟩
  case round =>
    obtain ⟨kk, ⟨held', fs', bg', body', en'⟩, HA3, hn3, hc3, FA3, fn3, fc3, BA3, bn3, bc3, hen, hgo, hT⟩ := hrel
    dsimp only at hen
    subst hen
    have HT := Lib.hid hT
    have hlen := hT.rlen
    have HLEN := Lib.hid hlen
    have hhl : held'.length = hn3 := hT.O.hn_
    have HHL := Lib.hid hhl
    have FR := hT.R.facts5R
    have FZ := hT.Z.facts5R
    have hb3 := hT.h3
    have hh5 := hT.h1
    have hf8 := hT.h2
    dsimp only at FR
    cases kk with
    | zero => unfold feedGo at hgo; cases hgo
    | succ kk =>
      unfold feedGo at hgo
      dsimp only at hgo
      rw [hhl] at hgo
      clear hT hlen hhl HT6 HF
      by_cases h0 : hn3 = 0
      ·
        -- [[fin
        rw [if_pos h0] at hgo
        subst h0
        have HGO := Lib.hid hgo
        clear hgo
        by_cases hfb : fin = true ∧ bg' = false
        · have hg := HGO.out
          rw [if_pos hfb] at hg
          injection hg with hg
          injection hg with g1 g2
          subst g1 g2
          obtain ⟨rfl, rfl⟩ := hfb
          go_wp2_with fail
          refine bodyPost_ret (v := .tuple #[.agg #[.slice none 0 0, .slice none 0 0, .bool false, .slice none 0 0, .bool false], .int .i64 4]) ?_ rfl ⟨none, 0, 0, none, 0, 0, none, 0, 0, rfl, RdrV.nil _, ?_⟩
          · simp [results, Try.results9, go_sem, FZ] <;> rfl
          · have h := HT.out.B
            (repeat (first | with_reducible exact h | with_reducible refine Below.drew ?_ | (with_reducible refine Below.set4 ?_ ?side _ _ _ _; case side => (first | omega | (simp; omega) | (simp; done))) | (with_reducible refine Below.setCell ?_ ?side _; case side => (first | omega | (simp; omega) | (simp; done))) | (with_reducible refine Below.alloc ?_ ?side _; case side => (first | omega | (simp; omega) | (simp; done)))))
        · have hg := HGO.out
          rw [if_neg hfb] at hg
          injection hg with hg
          injection hg with g1 g2
          subst g1 g2
          have hor : (fin = false) ∨ (fin = true ∧ bg' = true) := by
            cases fin
            · exact .inl rfl
            · cases bg'
              · exact absurd ⟨rfl, rfl⟩ hfb
              · exact .inr ⟨rfl, rfl⟩
          clear hfb HGO
          rcases hor with rfl | ⟨rfl, rfl⟩
          ·
            go_upto_region 23 with (fail)
            refine wp_world (fun w' => FdT w w' room put TA tn tc HA3 0 hc3 FA3 fn3 fc3 BA3 bn3 bc3 ⟨held', fs', bg', body', false⟩) ⟨(HT.out.R.set_ 4 _).as (by rfl), HT.out.T.far (p := ⟨w.heap.size, 4, none⟩) (by show w.heap.size + 1 ≠ w.heap.size; omega) _, HT.out.Z.far (p := ⟨w.heap.size, 4, none⟩) (by show w.heap.size + 1 + 1 ≠ w.heap.size; omega) _, HT.out.O.set (p := ⟨w.heap.size, 4, none⟩) (by show w.heap.size < _; omega) _, HT.out.B.setCell (p := ⟨w.heap.size, 4, none⟩) (Nat.le_refl _) _, hh5, hf8, hb3⟩ ?_
            clear FR FZ HT
            rintro w7 hT7
            have HT7 := Lib.hid hT7
            have FR7 := hT7.R.facts5R
            dsimp only at FR7
            clear hT7
            go_wp2_with fail
            refine (rFresh_any _ HA3 0 hc3 held' FA3 fn3 fc3 fs' bg' BA3 bn3 bc3 body' false HT7.out.O.v (by omega) hf8 (by omega)).mono ?_
            rintro e w8 ⟨HA8, hc8, FA8, fc8, BA8, bc8, rfl, hO8, hb8⟩
            have HT8 := Lib.hid (HT7.out.carry hb8)
            have HO8 := Lib.hid hO8
            have FZ8 := HT8.out.Z.facts5R
            have hz8 := HT7.out.Z.lt
            clear FR7 HT7 hO8 hb8
            go_wp2_with fail
            refine bodyPost_ret (v := .tuple #[.agg #[.slice HA8 0 hc8, .slice FA8 fn3 fc8, .bool bg', .slice BA8 bn3 bc8, .bool false], .int .i64 0]) ?_ rfl ⟨HA8, 0, hc8, FA8, fn3, fc8, BA8, bn3, bc8, rfl, ?_, ?_⟩
            · simp [results, Try.results9, go_sem, FZ8] <;> rfl
            · exact (HO8.out.set5 hz8 _ _ _ _ _).v
            · have h := HT8.out.B
              (repeat (first | with_reducible exact h | with_reducible refine Below.drew ?_ | (with_reducible refine Below.set4 ?_ ?side _ _ _ _; case side => (first | omega | (simp; omega) | (simp; done))) | (with_reducible refine Below.setCell ?_ ?side _; case side => (first | omega | (simp; omega) | (simp; done))) | (with_reducible refine Below.alloc ?_ ?side _; case side => (first | omega | (simp; omega) | (simp; done)))))
          ·
            go_upto_region 23 with (fail)
            refine wp_world (fun w' => FdT w w' room put TA tn tc HA3 0 hc3 FA3 fn3 fc3 BA3 bn3 bc3 ⟨held', fs', true, body', true⟩) ⟨(HT.out.R.set_ 4 _).as (by rfl), HT.out.T.far (p := ⟨w.heap.size, 4, none⟩) (by show w.heap.size + 1 ≠ w.heap.size; omega) _, HT.out.Z.far (p := ⟨w.heap.size, 4, none⟩) (by show w.heap.size + 1 + 1 ≠ w.heap.size; omega) _, HT.out.O.set (p := ⟨w.heap.size, 4, none⟩) (by show w.heap.size < _; omega) _, HT.out.B.setCell (p := ⟨w.heap.size, 4, none⟩) (Nat.le_refl _) _, hh5, hf8, hb3⟩ ?_
            clear FR FZ HT
            rintro w7 hT7
            have HT7 := Lib.hid hT7
            have FR7 := hT7.R.facts5R
            dsimp only at FR7
            clear hT7
            go_wp2_with fail
            refine (rFresh_any _ HA3 0 hc3 held' FA3 fn3 fc3 fs' true BA3 bn3 bc3 body' true HT7.out.O.v (by omega) hf8 (by omega)).mono ?_
            rintro e w8 ⟨HA8, hc8, FA8, fc8, BA8, bc8, rfl, hO8, hb8⟩
            have HT8 := Lib.hid (HT7.out.carry hb8)
            have HO8 := Lib.hid hO8
            have FZ8 := HT8.out.Z.facts5R
            have hz8 := HT7.out.Z.lt
            clear FR7 HT7 hO8 hb8
            go_wp2_with fail
            refine bodyPost_ret (v := .tuple #[.agg #[.slice HA8 0 hc8, .slice FA8 fn3 fc8, .bool true, .slice BA8 bn3 bc8, .bool true], .int .i64 0]) ?_ rfl ⟨HA8, 0, hc8, FA8, fn3, fc8, BA8, bn3, bc8, rfl, ?_, ?_⟩
            · simp [results, Try.results9, go_sem, FZ8] <;> rfl
            · exact (HO8.out.set5 hz8 _ _ _ _ _).v
            · have h := HT8.out.B
              (repeat (first | with_reducible exact h | with_reducible refine Below.drew ?_ | (with_reducible refine Below.set4 ?_ ?side _ _ _ _; case side => (first | omega | (simp; omega) | (simp; done))) | (with_reducible refine Below.setCell ?_ ?side _; case side => (first | omega | (simp; omega) | (simp; done))) | (with_reducible refine Below.alloc ?_ ?side _; case side => (first | omega | (simp; omega) | (simp; done)))))
        -- ]]fin
      ·
        -- [[step
        rw [if_neg h0] at hgo
        have hp1 : (0 : Int) < (hn3 : Int) := by omega
        have hp2 : 0 < hn3 := by omega
        obtain ⟨kd, fb, us, En, hnx⟩ : ∃ kd fb us En, nextR held' = (kd, fb, us, En) := ⟨_, _, _, _, rfl⟩
        rw [hnx] at hgo
        dsimp only at hgo
        have HNX := Lib.hid hnx
        have HGO := Lib.hid hgo
        clear hnx hgo
        go_wp2_with fail
        refine (rNext_any _ HA3 hn3 hc3 held' HT.out.O.v.h kd fb us En HNX.out).mono ?_
        rintro e w7 ⟨X7, m7, d7, rfl, hX7, hb7⟩
        have HT7 := Lib.hid (HT.out.carry hb7)
        have HX7 := Lib.hid (hX7.below hb7)
        have hm7 := hX7.hn
        have HM7 := Lib.hid hm7
        have FR7 := HT7.out.R.facts5R
        have FZ7 := HT7.out.Z.facts5R
        dsimp only at FR7
        clear FR FZ hX7 hb7 hm7 HT
        have hg := HGO.out
        by_cases hE4 : En = 4 ∧ fin = false
        ·
          -- [[short
          rw [if_pos hE4] at hg
          obtain ⟨rfl, rfl⟩ := hE4
          injection hg with hg
          injection hg with g1 g2
          subst g1 g2
          go_wp2_with fail
          refine bodyPost_ret (v := .tuple #[.agg #[.slice HA3 hn3 hc3, .slice FA3 fn3 fc3, .bool bg', .slice BA3 bn3 bc3, .bool false], .int .i64 0]) ?_ rfl ⟨HA3, hn3, hc3, FA3, fn3, fc3, BA3, bn3, bc3, rfl, ?_, ?_⟩
          · simp [results, Try.results9, go_sem, FZ7] <;> rfl
          · exact (HT7.out.O.set5 (by omega) _ _ _ _ _).v
          · have h := HT7.out.B
            (repeat (first | with_reducible exact h | with_reducible refine Below.drew ?_ | (with_reducible refine Below.set4 ?_ ?side _ _ _ _; case side => (first | omega | (simp; omega) | (simp; done))) | (with_reducible refine Below.setCell ?_ ?side _; case side => (first | omega | (simp; omega) | (simp; done))) | (with_reducible refine Below.alloc ?_ ?side _; case side => (first | omega | (simp; omega) | (simp; done)))))
          -- ]]short
        · rw [if_neg hE4] at hg
          by_cases hEn : En = 0
          ·
            subst hEn
            rw [if_neg (by simp)] at hg
            obtain ⟨U, rfl, hU1, hU2⟩ := nextR_ok HNX.out
            rw [HHL.out] at hU2
            rw [Int.toNat_natCast] at hg
            have HG := Lib.hid hg
            clear hg HGO hE4
            -- [[whole
            have HFRM : Hid (Calls Try.prog 21 #[.agg #[.slice HA3 hn3 hc3, .slice FA3 fn3 fc3, .bool bg', .slice BA3 bn3 bc3, .bool false], .agg #[.int .i64 room, .int .i64 put, .slice TA tn tc], .int .i64 kd, .slice X7 m7 d7] w7 fun e w8 =>
                (e = .returned (.tuple #[.agg #[.slice HA3 hn3 hc3, .slice FA3 fn3 fc3, .bool bg', .slice BA3 bn3 bc3, .bool false], .int .i64 3]) ∧ (rdr0 = r' ∧ (3 : Int) = E') ∧ Below w7.heap.size w7 w8) ∨
                (∃ (F' : Option Addr) (fn' fc' : Nat), e = .returned (.tuple #[.agg #[.slice HA3 hn3 hc3, .slice F' fn' fc', .bool false, .slice BA3 bn3 bc3, .bool false], .int .i64 14]) ∧ ((⟨held', fs', bg', body', false⟩ : RdrD) = r' ∧ (14 : Int) = E') ∧ Below w7.heap.size w7 w8) ∨
                (∃ (F' : Option Addr) (fn' fc' : Nat) (B' : Option Addr) (bn' bc' : Nat) (fs2 : List Fld) (body2 : List UInt8), e = .returned (.tuple #[.agg #[.slice HA3 hn3 hc3, .slice F' fn' fc', .bool true, .slice B' bn' bc', .bool false], .int .i64 0]) ∧ RdrO w8 (w.heap.size + 1 + 1 + 1) HA3 hn3 hc3 held' F' fn' fc' fs2 B' bn' bc' body2 ∧ fn' ≤ 8 ∧ bn' ≤ 200 ∧ feedGo sec out E fin kk ⟨held'.drop U, fs2, true, body2, false⟩ = some (r', E') ∧ Below (w.heap.size + 1 + 1 + 1) w7 w8)) := by
              have hg := HG.out
              have hz7 := HT7.out.Z.lt
              by_cases hA : (kd = 1 ∧ bg' = true) ∨ (kd = 0 ∧ bg' = false)
              · rw [if_pos hA] at hg
                injection hg with hg
                injection hg with g1 g2
                refine Lib.hid ((rFrame_form w7 _ _ _ bg' false _ rfl kd hA X7 m7 d7 ⟨_, _, _, rfl⟩ ⟨_, _, _, rfl⟩ ⟨_, _, _, rfl⟩ ⟨_, _, _, _, _, rfl⟩).mono ?_)
                rintro e w8 ⟨he, hb⟩
                exact .inl ⟨he, ⟨g1, g2⟩, hb⟩
              · rw [if_neg hA] at hg
                by_cases h1 : kd = 1
                · subst h1
                  rw [if_pos rfl] at hg
                  have hbf : bg' = false := by
                    cases hb : bg'
                    · rfl
                    · exact absurd (.inl ⟨rfl, hb⟩) hA
                  subst hbf
                  by_cases hs : fb = sec
                  · rw [if_pos hs] at hg
                    subst hs
                    refine Lib.hid ((rFrame_head w7 HA3 hn3 hc3 FA3 fn3 fc3 BA3 bn3 bc3 false room put TA tn tc l (HV.out.below HT7.out.B) X7 m7 d7 fb HX7.out out E HD.out HOK.out).mono ?_)
                    rintro e w8 ⟨F', fn', fc', he, hfn, hO8, hb8⟩
                    by_cases hE14 : E = 14
                    · rw [if_pos hE14] at hg
                      subst hE14
                      injection hg with hg
                      injection hg with g1 g2
                      exact .inr (.inl ⟨F', fn', fc', he, ⟨g1, g2⟩, hb8⟩)
                    · rw [if_neg hE14] at hg
                      by_cases hE0 : E = 0
                      · rw [if_pos hE0] at hg
                        subst hE0
                        have hO7 := HT7.out.O.carry hb8
                        refine .inr (.inr ⟨F', fn', fc', BA3, bn3, bc3, out, body', he, ⟨hO7.h, hO8.mono (by omega), hO7.b, hO7.ap, hO7.hn_, hfn, hO7.bn_⟩, by have := (HOK.out rfl).few; omega, hb3, hg, hb8.mono (by omega)⟩)
                      · rw [if_neg hE0] at hg; cases hg
                  · rw [if_neg hs] at hg; cases hg
                · rw [if_neg h1] at hg
                  by_cases h0' : kd = 0
                  · subst h0'
                    rw [if_pos rfl] at hg
                    have hbf : bg' = true := by
                      cases hb : bg'
                      · exact absurd (.inr ⟨rfl, hb⟩) hA
                      · rfl
                    subst hbf
                    have hbn : body'.length = bn3 := HT7.out.O.bn_
                    rw [hbn, HM7.out] at hg
                    by_cases h200 : bn3 + m7 ≤ 200
                    · rw [if_pos h200] at hg
                      refine Lib.hid ((rFrame_body w7 (w.heap.size + 1 + 1 + 1) (by omega) HA3 hn3 hc3 held' FA3 fn3 fc3 fs' BA3 bn3 bc3 body' false HT7.out.O room put TA tn tc X7 m7 d7 fb HX7.out h200).mono ?_)
                      rintro e w8 ⟨BA', bc', he, hO8, hb8⟩
                      exact .inr (.inr ⟨FA3, fn3, fc3, BA', bn3 + m7, bc', fs', body' ++ fb, he, hO8, hf8, h200, hg, hb8⟩)
                    · rw [if_neg h200] at hg; cases hg
                  · rw [if_neg h0'] at hg; cases hg
            have FT7 := HT7.out.T.facts3
            have d4 : ((0 : Int) == 4) = false := by decide
            go_wp2_with fail
            refine HFRM.out.mono ?_
            rintro e w8 (⟨rfl, ⟨rfl, rfl⟩, hb8⟩ | ⟨F', fn', fc', rfl, ⟨rfl, rfl⟩, hb8⟩ | ⟨F', fn', fc', B', bn', bc', fs2, body2, rfl, hO8, hfn8, hbn2, hgo2, hb8⟩)
            ·
              -- [[form
              have HT8 := Lib.hid (HT7.out.carry hb8)
              have FZ8 := HT8.out.Z.facts5R
              clear FT7 FR7 FZ7 HT7 hb8 HFRM
              go_wp2_with fail
              refine bodyPost_ret (v := .tuple #[.agg #[.slice none 0 0, .slice none 0 0, .bool false, .slice none 0 0, .bool false], .int .i64 3]) ?_ rfl ⟨none, 0, 0, none, 0, 0, none, 0, 0, rfl, RdrV.nil _, ?_⟩
              · simp [results, Try.results9, go_sem, FZ8] <;> rfl
              · have h := HT8.out.B
                (repeat (first | with_reducible exact h | with_reducible refine Below.drew ?_ | (with_reducible refine Below.set4 ?_ ?side _ _ _ _; case side => (first | omega | (simp; omega) | (simp; done))) | (with_reducible refine Below.setCell ?_ ?side _; case side => (first | omega | (simp; omega) | (simp; done))) | (with_reducible refine Below.alloc ?_ ?side _; case side => (first | omega | (simp; omega) | (simp; done)))))
              -- ]]form
            ·
              -- [[wait
              have HT8 := Lib.hid (HT7.out.carry hb8)
              have FR8 := HT8.out.R.facts5R
              dsimp only at FR8
              clear FT7 FR7 FZ7 HT7 hb8 HFRM
              go_wp2_with fail
              refine (rFresh_any _ HA3 hn3 hc3 held' FA3 fn3 fc3 fs' bg' BA3 bn3 bc3 body' false (HT8.out.O.v.below ((Below.refl _ _).alloc (Nat.le_refl _) _)) hh5 hf8 (by omega)).mono ?_
              rintro e w9 ⟨HA9, hc9, FA9, fc9, BA9, bc9, rfl, hO9, hb9⟩
              have HT9 := Lib.hid ((HT8.out.alloc _).carry hb9)
              have HO9 := Lib.hid hO9
              have FZ9 := HT9.out.Z.facts5R
              have hz9 := (HT8.out.alloc (.cells #[.slice HA3 hn3 hc3, .slice F' fn' fc', .bool false, .slice BA3 bn3 bc3, .bool false] 35)).Z.lt
              clear FR8 HT8 hO9 hb9
              go_wp2_with fail
              refine bodyPost_ret (v := .tuple #[.agg #[.slice HA9 hn3 hc9, .slice FA9 fn3 fc9, .bool bg', .slice BA9 bn3 bc9, .bool false], .int .i64 14]) ?_ rfl ⟨HA9, hn3, hc9, FA9, fn3, fc9, BA9, bn3, bc9, rfl, ?_, ?_⟩
              · simp [results, Try.results9, go_sem, FZ9] <;> rfl
              · exact (HO9.out.set5 (by simpa using hz9) _ _ _ _ _).v
              · have h := HT9.out.B
                (repeat (first | with_reducible exact h | with_reducible refine Below.drew ?_ | (with_reducible refine Below.set4 ?_ ?side _ _ _ _; case side => (first | omega | (simp; omega) | (simp; done))) | (with_reducible refine Below.setCell ?_ ?side _; case side => (first | omega | (simp; omega) | (simp; done))) | (with_reducible refine Below.alloc ?_ ?side _; case side => (first | omega | (simp; omega) | (simp; done)))))
              -- ]]wait
            ·
              -- [[good
              have HM8 := Lib.hid (HT7.out.m.below hb8)
              have HO8 := Lib.hid hO8
              have HGO2 := Lib.hid hgo2
              have hz8 := HM8.out.Z.lt
              clear FT7 FR7 FZ7 HT7 hb8 HFRM hO8 hgo2 HG
              obtain ⟨gN, hgN⟩ : ∃ q, w8.heap.size = q := ⟨_, rfl⟩
              go_upto_region 18 with (fail)
              refine wp_world (fun w' => Blk w' gN 35 #[.slice HA3 hn3 hc3, .slice F' fn' fc', .bool true, .slice B' bn' bc', .bool false] ∧ FdM w w' room put TA tn tc (.slice HA3 hn3 hc3) (.slice FA3 fn3 fc3) bg' (.slice BA3 bn3 bc3) false ∧ RdrO w' (w.heap.size + 1 + 1 + 1) HA3 hn3 hc3 held' F' fn' fc' fs2 B' bn' bc' body2) ⟨Blk.newR hgN, HM8.out.below ((Below.refl _ _).alloc (by omega) _), HO8.out.carry ((Below.refl _ _).alloc (Nat.le_refl _) _)⟩ ?_
              try rw [hgN]
              have hgN3 : w.heap.size + 1 + 1 < gN := by omega
              have l1 : ∀ q, HA3.map (fun y : Addr => y.block) = some q → q < gN := fun q hq => by have := (HO8.out.h.lt (n := 0) q (by rw [slice_own]; exact hq)).2; omega
              have l2 : ∀ q, F'.map (fun y : Addr => y.block) = some q → q < gN := fun q hq => by have := (HO8.out.f.lt (n := 0) q (by rw [slice_own]; exact hq)).2; omega
              have l3 : ∀ q, B'.map (fun y : Addr => y.block) = some q → q < gN := fun q hq => by have := (HO8.out.b.lt (n := 0) q (by rw [slice_own]; exact hq)).2; omega
              have L1 := Lib.hid l1
              have L2 := Lib.hid l2
              have L3 := Lib.hid l3
              clear HM8 HO8 hgN l1 l2 l3 hz8
              rintro w9 ⟨hN9, hM9, hO9⟩
              have HN9 := Lib.hid hN9
              have HM9 := Lib.hid hM9
              have HO9 := Lib.hid hO9
              have FR9 := hM9.R.facts5R
              have hN9l := hN9.lt
              have hcap9 := hO9.h.cap
              rw [hO9.hn_] at hcap9
              have hw9 : w.heap.size + 1 + 1 + 1 ≤ w9.heap.size := by omega
              clear hN9 hM9 hO9
              obtain ⟨D, hD⟩ : ∃ D, (if hc3 = U then HA3 else Option.map (fun x => x.add U) HA3) = D := ⟨_, rfl⟩
              obtain ⟨n9, hn9⟩ : ∃ n9, hn3 - U = n9 := ⟨_, rfl⟩
              have hBD : BV w9 D n9 (hc3 - U) (held'.drop U) := by
                have h := HO9.out.v.h.cutR (k := U) hU2
                rw [hn9] at h
                rw [← hD]; exact h
              have HBD := Lib.hid hBD
              have HBN := Lib.hid hBD.hn
              have hu0 : (0 : Int) ≤ (U : Int) := by omega
              have hu1 : (U : Int) ≤ (hn3 : Int) := by omega
              have hu2 : (U : Int) ≤ (hc3 : Int) := by omega
              have hu3 : U ≤ hc3 := by omega
              have hOE : OwnX u8c 1 (w9.alloc (.cells #[] 5)) w9.heap.size 5 (some ⟨w9.heap.size, 0, none⟩) 0 [] := OwnX.made u8c 1 w9 w9.heap.size 5 (Nat.le_refl _)
              have HOE := Lib.hid hOE
              clear hBD hOE
              go_upto_region 19 with (at_builtin; refine wpList_appL u8c 1 u8c_one _ rfl (.tmp 81) (.tmp 85) _ rfl w9.heap.size 5 _ 1 Try.underlying24 u8_infoP rfl (by decide) (by decide) _ 0 _ [] rfl rfl HOE.out D n9 (hc3 - U) (held'.drop U) rfl HBN.out (RdX.below HBD.out.rd.x ((Below.refl _ _).alloc (Nat.le_refl _) _)) (held'.drop U) rfl n9 (by omega) (by omega) (by simp) ?_; intro A10 c10 w10 hO10 hc10 hm10 hb10 hgr10 hat10; have hbb10 : Below w9.heap.size w9 w10 := ((Below.refl _ _).alloc (Nat.le_refl _) _).trans hb10; have FN10 := (HN9.out.carry hbb10).facts5R)
              have l10 : ∀ q, A10.map (fun y : Addr => y.block) = some q → w9.heap.size ≤ q := fun q hq => (hO10.lt (n := 0) q (by rw [slice_own]; exact hq)).1
              have hX10 : RdrO w10 (w.heap.size + 1 + 1 + 1) A10 n9 c10 (held'.drop U) F' fn' fc' fs2 B' bn' bc' body2 :=
                ⟨hO10.mono hw9, HO9.out.f.carry hbb10, HO9.out.b.carry hbb10, fun q hq hq' => by have h1 := l10 q hq; have h2 := L3.out q hq'; omega, HBN.out, HO9.out.fn_, HO9.out.bn_⟩
              refine wp_world (fun w' => Blk w' gN 35 #[.slice A10 n9 c10, .slice F' fn' fc', .bool true, .slice B' bn' bc', .bool false] ∧ FdM w w' room put TA tn tc (.slice HA3 hn3 hc3) (.slice FA3 fn3 fc3) bg' (.slice BA3 bn3 bc3) false ∧ RdrO w' (w.heap.size + 1 + 1 + 1) A10 n9 c10 (held'.drop U) F' fn' fc' fs2 B' bn' bc' body2) ⟨((HN9.out.carry hbb10).set_ 0 _).as (by rfl), ?m1, ?m2⟩ ?_
              case m1 =>
                have h := HM9.out.below (hbb10.mono hw9)
                exact ⟨h.R.far (p := ⟨gN, 0, none⟩) (by show w.heap.size ≠ gN; omega) _, h.T.far (p := ⟨gN, 0, none⟩) (by show w.heap.size + 1 ≠ gN; omega) _, h.Z.far (p := ⟨gN, 0, none⟩) (by show w.heap.size + 1 + 1 ≠ gN; omega) _, h.B.setCell (p := ⟨gN, 0, none⟩) (by show w.heap.size ≤ gN; omega) _⟩
              case m2 => exact hX10.far (p := ⟨gN, 0, none⟩) (fun q hq => by have := l10 q hq; show q ≠ gN; omega) (fun q hq => by have := L2.out q hq; show q ≠ gN; omega) (fun q hq => by have := L3.out q hq; show q ≠ gN; omega) _
              clear hX10 hO10 hb10 hgr10 hat10 hbb10 FN10 HN9 HM9 HO9 FR9 HBD HOE hD l10 L1 L2 L3
              rintro w11 ⟨hN11, hM11, hO11⟩
              have FN := hN11.facts5R
              have FR11 := hM11.R.facts5R
              have HM11 := Lib.hid hM11
              have HO11 := Lib.hid hO11
              have hz := FdM.setR (r' := ⟨held'.drop U, fs2, true, body2, false⟩) hM11 hO11 (by omega) hfn8 hbn2
              dsimp only at hz
              have hzl := hz.rlen
              have HZ := Lib.hid hz
              have HZL := Lib.hid hzl
              clear hN11 hM11 hO11 HM11 HO11 hz hzl
              have HLT : Hid (n9 < rdrLen wr w.heap.size) := Lib.hid (by rw [HLEN.out]; omega)
              go_wp2_with fail
              go_roundw
              case rel => exact ⟨kk, ⟨held'.drop U, fs2, true, body2, false⟩, A10, n9, c10, F', fn', fc', B', bn', bc', rfl, HGO2.out, HZ.out⟩
              case measure => exact Nat.lt_of_le_of_lt (Nat.le_of_eq HZL.out) HLT.out
              -- ]]good
            -- ]]whole
          ·
            -- [[bad
            rw [if_pos hEn] at hg
            injection hg with hg
            injection hg with g1 g2
            subst g1 g2
            have hne : (En == 0) = false := by simp [hEn]
            have hor : (En == 4) = false ∨ fin = true := by
              by_cases h4 : En = 4
              · right; cases fin
                · exact absurd ⟨h4, rfl⟩ hE4
                · rfl
              · left; simp [h4]
            have FT7 := HT7.out.Z.facts5R
            rcases hor with h4 | h4
            · go_wp2_with fail
              refine bodyPost_ret (v := .tuple #[.agg #[.slice none 0 0, .slice none 0 0, .bool false, .slice none 0 0, .bool false], .int .i64 En]) ?_ rfl ⟨none, 0, 0, none, 0, 0, none, 0, 0, rfl, RdrV.nil _, ?_⟩
              · simp [results, Try.results9, go_sem, FZ7] <;> rfl
              · have h := HT7.out.B
                (repeat (first | with_reducible exact h | with_reducible refine Below.drew ?_ | (with_reducible refine Below.set4 ?_ ?side _ _ _ _; case side => (first | omega | (simp; omega) | (simp; done))) | (with_reducible refine Below.setCell ?_ ?side _; case side => (first | omega | (simp; omega) | (simp; done))) | (with_reducible refine Below.alloc ?_ ?side _; case side => (first | omega | (simp; omega) | (simp; done)))))
            · subst h4
              cases h44 : (En == 4)
              · go_wp2_with fail
                refine bodyPost_ret (v := .tuple #[.agg #[.slice none 0 0, .slice none 0 0, .bool false, .slice none 0 0, .bool false], .int .i64 En]) ?_ rfl ⟨none, 0, 0, none, 0, 0, none, 0, 0, rfl, RdrV.nil _, ?_⟩
                · simp [results, Try.results9, go_sem, FZ7] <;> rfl
                · have h := HT7.out.B
                  (repeat (first | with_reducible exact h | with_reducible refine Below.drew ?_ | (with_reducible refine Below.set4 ?_ ?side _ _ _ _; case side => (first | omega | (simp; omega) | (simp; done))) | (with_reducible refine Below.setCell ?_ ?side _; case side => (first | omega | (simp; omega) | (simp; done))) | (with_reducible refine Below.alloc ?_ ?side _; case side => (first | omega | (simp; omega) | (simp; done)))))
              · go_wp2_with fail
                refine bodyPost_ret (v := .tuple #[.agg #[.slice none 0 0, .slice none 0 0, .bool false, .slice none 0 0, .bool false], .int .i64 En]) ?_ rfl ⟨none, 0, 0, none, 0, 0, none, 0, 0, rfl, RdrV.nil _, ?_⟩
                · simp [results, Try.results9, go_sem, FZ7] <;> rfl
                · have h := HT7.out.B
                  (repeat (first | with_reducible exact h | with_reducible refine Below.drew ?_ | (with_reducible refine Below.set4 ?_ ?side _ _ _ _; case side => (first | omega | (simp; omega) | (simp; done))) | (with_reducible refine Below.setCell ?_ ?side _; case side => (first | omega | (simp; omega) | (simp; done))) | (with_reducible refine Below.alloc ?_ ?side _; case side => (first | omega | (simp; omega) | (simp; done)))))
            -- ]]bad
        -- ]]step
end Go.Proofs.Ytihngonemdaihaa
/- The contracts of request.Feed of a reader that has ended, and of requestTells. -/
namespace Go.Proofs.Ytihngonemdaihaa
open Go.ChangeShapes Go.WideShapes Go.ChangeAt Go.RowKit
set_option linter.unusedVariables false

set_option maxRecDepth 100000 in
set_option maxHeartbeats 4000000 in
theorem rFeed_done (w : World) (room put : Int) (TA : Option Addr) (tn tc : Nat) (HA : Option Addr) (hn hc : Nat) (FA : Option Addr) (fn fc : Nat) (BA : Option Addr) (bn bc : Nat) (bg : Bool) (h1 : hn ≤ 800) (h3 : bn ≤ 200) (X : Option Addr) (m d : Nat) (hm : m ≤ 800) (fin : Bool) :
    Calls Try.prog 9 #[.agg #[.slice HA hn hc, .slice FA fn fc, .bool bg, .slice BA bn bc, .bool true], .agg #[.int .i64 room, .int .i64 put, .slice TA tn tc], .slice X m d, .bool fin] w (FeedOut w rdr0 17) := by
  have d1 : decide ((800 : Int) < (hn : Int)) = false := decide_eq_false (by omega)
  have d1' : decide (800 < hn) = false := decide_eq_false (by omega)
  have d2 : decide ((200 : Int) < (bn : Int)) = false := decide_eq_false (by omega)
  have d2' : decide (200 < bn) = false := decide_eq_false (by omega)
  have d3 : decide ((800 : Int) < (m : Int)) = false := decide_eq_false (by omega)
  have d3' : decide (800 < m) = false := decide_eq_false (by omega)
  go_enter Try.func9, Try.ntmps9
  go_upto_region 1 with (fail)
  refine wp_world (fun w' => Blk w' w.heap.size 35 #[.slice HA hn hc, .slice FA fn fc, .bool bg, .slice BA bn bc, .bool true] ∧ Blk w' (w.heap.size + 1) 29 #[.int .i64 room, .int .i64 put, .slice TA tn tc] ∧ Blk w' (w.heap.size + 1 + 1) 35 #[.slice none 0 0, .slice none 0 0, .bool false, .slice none 0 0, .bool false] ∧ Below w.heap.size w w') ⟨((Blk.new _ _ _).alloc _).alloc _, (Blk.new1 _ _ _ _).alloc _, Blk.new2 _ _ _ _ _, (((Below.refl _ _).alloc (Nat.le_refl _) _).alloc (by simp) _).alloc (by simp; omega) _⟩ ?_
  rintro w1 ⟨hR1, hT1, hZ1, hb1⟩
  have FR := hR1.facts5R
  have FZ := hZ1.facts5R
  have HB1 := Lib.hid hb1
  clear hR1 hT1 hZ1 hb1
  go_wp2_with fail
  refine bodyPost_ret (v := .tuple #[.agg #[.slice none 0 0, .slice none 0 0, .bool false, .slice none 0 0, .bool false], .int .i64 17]) ?_ rfl ⟨none, 0, 0, none, 0, 0, none, 0, 0, rfl, RdrV.nil _, ?_⟩
  · simp [results, Try.results9, go_sem, FZ] <;> rfl
  · have h := HB1.out
    (repeat (first | with_reducible exact h | with_reducible refine Below.drew ?_ | (with_reducible refine Below.set4 ?_ ?side _ _ _ _; case side => (first | omega | (simp; omega) | (simp; done))) | (with_reducible refine Below.setCell ?_ ?side _; case side => (first | omega | (simp; omega) | (simp; done))) | (with_reducible refine Below.alloc ?_ ?side _; case side => (first | omega | (simp; omega) | (simp; done)))))

set_option maxRecDepth 100000 in
set_option maxHeartbeats 4000000 in
theorem requestTells_any (w : World) : Calls Try.prog 10 #[] w fun e w' => e = .returned (.bool true) ∧ Below w.heap.size w w' := by
  go_enter Try.func10, Try.ntmps10
  go_wp2_with fail
  refine (rCheck_any _ none 0 0 [] rfl (Nat.le_refl _) (by decide) (by decide) (fun f hf => absurd hf List.not_mem_nil) ⟨fun j hj => absurd hj (Nat.not_lt_zero _), fun j hj => absurd hj (Nat.not_lt_zero _)⟩ RdX.nil 3 (by decide +kernel)).mono ?_
  rintro e w1 ⟨rfl, hb1⟩
  have HB1 := Lib.hid hb1
  clear hb1
  go_wp2_with fail
  refine (requestOf_any _ none 0 0 [] ⟨rfl, (RdX.nil : RdX rawCells 4 w1 none []), Nat.le_refl _, by decide, fun i hi => absurd hi (Nat.not_lt_zero _)⟩ (ByteArray.mk #[]) (by decide) 0 (by decide) (by decide)).mono ?_
  rintro e w2 ⟨L, m, cL, fs, BA, bn, bc, body, rfl, hF, hm, hmc, hcL, hrd, hB, hbn, hb2⟩
  have HB2 := Lib.hid (HB1.out.trans (hb2.mono HB1.out.size))
  have HRD := Lib.hid hrd
  have HF := Lib.hid hF
  have HM := Lib.hid hm
  clear hF hm hrd hB hb2 HB1
  have hfld : Sem.run Try.prog (Instr.field 26 (Value.agg #[.slice L m cL, .slice BA bn bc]) 0) w2 = .ok (.slice L m cL) w2 := by rfl
  have h8 : m ≤ 8 := by have := HF.out.ok.few; have := HM.out; omega
  go_wp2_with fail
  refine (rCheck_any _ L m cL fs HM.out hmc hcL h8 HF.out.ok.ok HF.out.ok.names HRD.out 0 (by have h1 := HF.out.ok.m; have h2 := HF.out.ok.p; rw [HM.out] at h1 h2; rw [h1, h2]; rfl)).mono ?_
  rintro e w3 ⟨rfl, hb3⟩
  have HB3 := Lib.hid (HB2.out.trans (hb3.mono HB2.out.size))
  clear hb3 HB2 hfld
  go_wp2_with fail
  refine bodyPost_ret (v := .bool true) ?_ rfl ⟨rfl, ?_⟩
  · simp [results, Try.results10, go_sem] <;> rfl
  · have h := HB3.out
    (repeat (first | with_reducible exact h | with_reducible refine Below.drew ?_ | (with_reducible refine Below.set4 ?_ ?side _ _ _ _; case side => (first | omega | (simp; omega) | (simp; done))) | (with_reducible refine Below.setCell ?_ ?side _; case side => (first | omega | (simp; omega) | (simp; done))) | (with_reducible refine Below.alloc ?_ ?side _; case side => (first | omega | (simp; omega) | (simp; done)))))
end Go.Proofs.Ytihngonemdaihaa
/- The contract of sameFields, of the same fields. -/
namespace Go.Proofs.Ytihngonemdaihaa
open Go.ChangeShapes Go.WideShapes Go.ChangeAt Go.RowKit
set_option linter.unusedVariables false

set_option maxHeartbeats 1000000 in
theorem sameFields_eq (A B : Option Addr) (n c d : Nat) (l : List Fld) (hn : l.length = n) (hnc : n ≤ c) (hnd : n ≤ d) (hcm : c ≤ 9223372036854775807) (hdm : d ≤ 9223372036854775807) (w : World) (hA : RdX fcells 2 w A l) (hB : RdX fcells 2 w B l) :
    Calls Try.prog 11 #[.slice A n c, .slice B n d] w fun e w' => e = .returned (.bool true) ∧ Below w.heap.size w w' := by
  have HN := Lib.hid hn
  have HA := Lib.hid hA
  have HB := Lib.hid hB
  clear hn hA hB
  go_enter Try.func11, Try.ntmps11
  go_wp2_with fail
  go_loopw [5, 6] (fun ok i wr => ∃ k : Nat, k ≤ n ∧ i = .int .i64 k ∧ ok = .bool true ∧ Below w.heap.size w wr) (fun _ i _ => n - (intOf i).toNat)
  case atStart => exact ⟨0, Nat.zero_le _, rfl, by simp, Below.refl _ _⟩
  case round =>
    obtain ⟨k, hk, rfl, rfl, hb⟩ := hrel
    by_cases hlt : k < n
    · have hlen := HN.out
      obtain ⟨b, off, rfl, hcell⟩ := (RdX.below HA.out hb).fcell (by omega)
      obtain ⟨b', off', rfl, hcell'⟩ := (RdX.below HB.out hb).fcell (by omega)
      obtain ⟨c0, c1⟩ := hcell k (by omega)
      obtain ⟨d0, d1⟩ := hcell' k (by omega)
      obtain ⟨x1, x2, hx⟩ : ∃ x1 x2, l.getD k fnil = (x1, x2) := ⟨_, _, rfl⟩
      rw [hx] at c0 c1 d0 d1
      have hk0 : (0 : Int) ≤ (k : Int) := by omega
      have hk1 : (k : Int) < (n : Int) := by omega
      clear hx hlen hcell hcell'
      go_upto_region 5 with (fail)
      go_quiet (fail)
      have hb2 : Below w.heap.size w (wr.drewN nq) := ⟨hb.os, hb.tape, hb.output, hb.size, hb.block⟩
      go_wp2_with fail
      go_roundw
      case rel => exact ⟨k + 1, by omega, by go_num, by simp, hb2⟩
      case measure => simp [intOf]; omega
    · go_wp2_with fail
      go_ret
      exact ⟨rfl, hb⟩


end Go.Proofs.Ytihngonemdaihaa
/- Rows stay where a reader is written. -/
namespace Go.Proofs.Ytihngonemdaihaa
open Go.RowKit
set_option linter.unusedVariables false

def SB (v : Value) : Prop := (∃ X n c, v = .slice X n c) ∨ ∃ b, v = .bool b
def NB (v : Value) : Prop := (∃ z, v = .int .u8 z) ∨ ∃ x, v = .string x
theorem sb5 (a0 : Option Addr) (a1 a2 : Nat) (b0 : Option Addr) (b1 b2 : Nat) (c : Bool) (d0 : Option Addr) (d1 d2 : Nat) (e : Bool) : ∀ (i : Nat) v, (#[.slice a0 a1 a2, .slice b0 b1 b2, .bool c, .slice d0 d1 d2, .bool e] : Array Value)[i]? = some v → ¬ NB v := by
  intro i v h hv
  rcases hv with ⟨z, rfl⟩ | ⟨x, rfl⟩ <;> (rcases i with _ | _ | _ | _ | _ | i <;> simp at h)
section
variable {w : World} {g : Nat} {t : TypeId} {a0 : Option Addr} {a1 a2 : Nat} {b0 : Option Addr} {b1 b2 : Nat} {c : Bool} {d0 : Option Addr} {d1 d2 : Nat} {e : Bool}
theorem Rd.setR5 {size n : Nat} {A : Option Addr} {xs : List Value} (h : Rd w size A n xs) (hx : ∀ v ∈ xs, NB v) (hB : Blk w g t #[.slice a0 a1 a2, .slice b0 b1 b2, .bool c, .slice d0 d1 d2, .bool e]) (a0' : Option Addr) (a1' a2' : Nat) (b0' : Option Addr) (b1' b2' : Nat) (c' : Bool) (d0' : Option Addr) (d1' d2' : Nat) (e' : Bool) :
    Rd (((((w.setCell ⟨g, 0, none⟩ (.slice a0' a1' a2')).setCell ⟨g, 1, none⟩ (.slice b0' b1' b2')).setCell ⟨g, 2, none⟩ (.bool c')).setCell ⟨g, 3, none⟩ (.slice d0' d1' d2')).setCell ⟨g, 4, none⟩ (.bool e')) size A n xs := by
  have h1 := h.setP (p := NB) hx hB (sb5 _ _ _ _ _ _ _ _ _ _ _) 0 (.slice a0' a1' a2')
  have B1 : Blk (w.setCell ⟨g, 0, none⟩ (.slice a0' a1' a2')) g t #[.slice a0' a1' a2', .slice b0 b1 b2, .bool c, .slice d0 d1 d2, .bool e] := (hB.set_ 0 _).as (by rfl)
  have h2 := h1.setP (p := NB) hx B1 (sb5 _ _ _ _ _ _ _ _ _ _ _) 1 (.slice b0' b1' b2')
  have B2 : Blk _ g t #[.slice a0' a1' a2', .slice b0' b1' b2', .bool c, .slice d0 d1 d2, .bool e] := (B1.set_ 1 (.slice b0' b1' b2')).as (by rfl)
  have h3 := h2.setP (p := NB) hx B2 (sb5 _ _ _ _ _ _ _ _ _ _ _) 2 (.bool c')
  have B3 : Blk _ g t #[.slice a0' a1' a2', .slice b0' b1' b2', .bool c', .slice d0 d1 d2, .bool e] := (B2.set_ 2 (.bool c')).as (by rfl)
  have h4 := h3.setP (p := NB) hx B3 (sb5 _ _ _ _ _ _ _ _ _ _ _) 3 (.slice d0' d1' d2')
  have B4 : Blk _ g t #[.slice a0' a1' a2', .slice b0' b1' b2', .bool c', .slice d0' d1' d2', .bool e] := (B3.set_ 3 (.slice d0' d1' d2')).as (by rfl)
  exact h4.setP (p := NB) hx B4 (sb5 _ _ _ _ _ _ _ _ _ _ _) 4 (.bool e')
theorem u8s_nb (bs : List UInt8) : ∀ v ∈ u8s bs, NB v := fun v hv => .inl (u8s_is bs v hv)
theorem fcells_nb (xs : List Fld) : ∀ v ∈ xs.flatMap fcells, NB v := fun v hv => .inr (fcells_str hv)
theorem BV.setR5 {A : Option Addr} {n q : Nat} {bs : List UInt8} (h : BV w A n q bs) (hB : Blk w g t #[.slice a0 a1 a2, .slice b0 b1 b2, .bool c, .slice d0 d1 d2, .bool e]) (a0' : Option Addr) (a1' a2' : Nat) (b0' : Option Addr) (b1' b2' : Nat) (c' : Bool) (d0' : Option Addr) (d1' d2' : Nat) (e' : Bool) :
    BV (((((w.setCell ⟨g, 0, none⟩ (.slice a0' a1' a2')).setCell ⟨g, 1, none⟩ (.slice b0' b1' b2')).setCell ⟨g, 2, none⟩ (.bool c')).setCell ⟨g, 3, none⟩ (.slice d0' d1' d2')).setCell ⟨g, 4, none⟩ (.bool e')) A n q bs :=
  ⟨h.hn, h.hnc, h.hcm, Rd.setR5 h.rd (u8s_nb _) hB _ _ _ _ _ _ _ _ _ _ _⟩
theorem RdX.setR5 {A : Option Addr} {xs : List Fld} (h : RdX fcells 2 w A xs) (hB : Blk w g t #[.slice a0 a1 a2, .slice b0 b1 b2, .bool c, .slice d0 d1 d2, .bool e]) (a0' : Option Addr) (a1' a2' : Nat) (b0' : Option Addr) (b1' b2' : Nat) (c' : Bool) (d0' : Option Addr) (d1' d2' : Nat) (e' : Bool) :
    RdX fcells 2 (((((w.setCell ⟨g, 0, none⟩ (.slice a0' a1' a2')).setCell ⟨g, 1, none⟩ (.slice b0' b1' b2')).setCell ⟨g, 2, none⟩ (.bool c')).setCell ⟨g, 3, none⟩ (.slice d0' d1' d2')).setCell ⟨g, 4, none⟩ (.bool e')) A xs :=
  Rd.setR5 h (fcells_nb _) hB _ _ _ _ _ _ _ _ _ _ _
theorem RdrV.setR5 {HA : Option Addr} {hn hc : Nat} {held : List UInt8} {FA : Option Addr} {fn fc : Nat} {fs : List Fld} {BA : Option Addr} {bn bc : Nat} {body : List UInt8} (h : RdrV w HA hn hc held FA fn fc fs BA bn bc body) (hB : Blk w g t #[.slice a0 a1 a2, .slice b0 b1 b2, .bool c, .slice d0 d1 d2, .bool e]) (a0' : Option Addr) (a1' a2' : Nat) (b0' : Option Addr) (b1' b2' : Nat) (c' : Bool) (d0' : Option Addr) (d1' d2' : Nat) (e' : Bool) :
    RdrV (((((w.setCell ⟨g, 0, none⟩ (.slice a0' a1' a2')).setCell ⟨g, 1, none⟩ (.slice b0' b1' b2')).setCell ⟨g, 2, none⟩ (.bool c')).setCell ⟨g, 3, none⟩ (.slice d0' d1' d2')).setCell ⟨g, 4, none⟩ (.bool e')) HA hn hc held FA fn fc fs BA bn bc body :=
  ⟨h.h.setR5 hB _ _ _ _ _ _ _ _ _ _ _, h.fn_, h.fc_, h.fm_, RdX.setR5 h.f hB _ _ _ _ _ _ _ _ _ _ _, h.b.setR5 hB _ _ _ _ _ _ _ _ _ _ _⟩
theorem TabB.setR5 {u : Nat} {room put : Int} {A : Option Addr} {n q : Nat} {l : List Fld} (h : TabB w u room put A n q l) (hne : u ≠ g) (hB : Blk w g t #[.slice a0 a1 a2, .slice b0 b1 b2, .bool c, .slice d0 d1 d2, .bool e]) (a0' : Option Addr) (a1' a2' : Nat) (b0' : Option Addr) (b1' b2' : Nat) (c' : Bool) (d0' : Option Addr) (d1' d2' : Nat) (e' : Bool) :
    TabB (((((w.setCell ⟨g, 0, none⟩ (.slice a0' a1' a2')).setCell ⟨g, 1, none⟩ (.slice b0' b1' b2')).setCell ⟨g, 2, none⟩ (.bool c')).setCell ⟨g, 3, none⟩ (.slice d0' d1' d2')).setCell ⟨g, 4, none⟩ (.bool e')) u room put A n q l :=
  ⟨h.blk.far5 hne _ _ _ _ _, h.tab.rows (RdX.setR5 h.tab.hr hB _ _ _ _ _ _ _ _ _ _ _)⟩
end
end Go.Proofs.Ytihngonemdaihaa
