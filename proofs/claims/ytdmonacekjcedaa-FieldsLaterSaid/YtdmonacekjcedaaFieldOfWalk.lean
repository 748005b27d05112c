/- The contract of fieldOf. -/
import Derived.Test.YtdmonacekjcedaaGetWalk
import Derived.Test.YtdmonacekjcedaaCutStrWalk
import Derived.Test.YtdmonacekjcedaaPickAt
import Derived.Test.YtdmonacekjcedaaRawOpen
import Derived.Deep.RegionHeld3
namespace Go.Proofs.Ytdmonacekjcedaa
open Go.ChangeShapes Go.WideShapes Go.ChangeAt Go.RowKit
set_option linter.unusedVariables false

def nameN (i : Int) : ByteArray := if i = 0 then ⟨#[97, 103, 101]⟩ else if i = 1 then ⟨#[101, 116, 97, 103]⟩ else if i = 2 then ⟨#[104, 111, 115, 116]⟩ else if i = 3 then ⟨#[120, 45, 97]⟩ else ⟨#[115, 101, 114, 118, 101, 114]⟩
/-- fieldOf, as the code does it. -/
def fieldF (r : RawD) : Fld := (nameN (r.a % 5), cutS r.text (r.b % 12).toNat)
theorem nameN_size (i : Int) : 3 ≤ (nameN i).size ∧ (nameN i).size ≤ 6 := by
  unfold nameN; repeat' split
  all_goals exact ⟨by decide, by decide⟩
theorem fieldF_ok (r : RawD) : FOk (fieldF r) ∧ (fieldF r).2.size ≤ 11 := by
  have h1 := nameN_size (r.a % 5)
  have h2 := cutS_size r.text (r.b % 12).toNat
  have h3 := Int.emod_lt_of_pos r.b (show (0 : Int) < 12 by decide)
  have h4 : (cutS r.text (r.b % 12).toNat).size ≤ 11 := by omega
  exact ⟨⟨by show 1 ≤ (nameN (r.a % 5)).size; omega, by show (nameN (r.a % 5)).size ≤ 20; omega, by show (cutS r.text (r.b % 12).toNat).size ≤ 40; omega⟩, h4⟩

/-- The load out of the slice of names, behind a name (so that the walk of the region does not try to take it first). -/
def nameLoad : Oper := { dst := some 8, op := Op.load 9 (Operand.tmp 7), type := 9, pos := "mid.go:423", after := #[{ on := 4, ground := Ground.data }], guard := none }
theorem nameLoad_eq : nameLoad = { dst := some 8, op := Op.load 9 (Operand.tmp 7), type := 9, pos := "mid.go:423", after := #[{ on := 4, ground := Ground.data }], guard := none } := rfl
attribute [local go_sem] nameLoad

set_option maxRecDepth 100000 in
set_option maxHeartbeats 4000000 in
theorem fieldOf_any (r : RawD) (hr : RawOk r) (F : Fld) (hF : fieldF r = F) (w : World) :
    Calls Try.prog 12 #[.agg #[.int .i64 r.kind, .int .i64 r.a, .int .i64 r.b, .string r.text]] w fun e w' => e = .returned (.agg #[.string F.1, .string F.2]) ∧ Below w.heap.size w w' := by
  obtain ⟨o0, o1, o2, o3⟩ := hr
  unfold maxLen at o3
  have hm0 := Int.emod_nonneg r.b (show (12 : Int) ≠ 0 by decide)
  obtain ⟨m, hm⟩ : ∃ m : Nat, r.b % 12 = (m : Int) := ⟨(r.b % 12).toNat, by omega⟩
  obtain ⟨y, HY, y0, y1⟩ := mod_ex r.a 5 (by decide)
  have hF1 : F = (nameN y, cutS r.text m) := by rw [← hF]; unfold fieldF; rw [HY.out, hm]; rfl
  have HM : Hid (r.b % 12 = (m : Int)) := hm
  have hm12 : m < 12 := by have := Int.emod_lt_of_pos r.b (show (0 : Int) < 12 by decide); omega
  subst hF1
  clear hF hm hm0
  go_enter Try.func12, Try.ntmps12
  go_upto_region 1 with (fail)
  refine wp_world (fun w' => Blk w' w.heap.size 35 #[.int .i64 r.kind, .int .i64 r.a, .int .i64 r.b, .string r.text] ∧ Blk w' (w.heap.size + 1) 39 #[.string ByteArray.empty, .string ByteArray.empty] ∧ Below w.heap.size w w') ⟨(Blk.new _ _ _).alloc _, Blk.new1 _ _ _ _, ((Below.refl _ _).alloc (Nat.le_refl _) _).alloc (by simp) _⟩ ?_
  rintro w2 ⟨hQ, hC, hb⟩
  have FQ := hQ.facts4
  have FC := hC.two
  have hgl := hC.lt
  obtain ⟨i, rfl⟩ := Int.eq_ofNat_of_zero_le y0
  have hix : (#[Value.string ⟨#[97, 103, 101]⟩, Value.string ⟨#[101, 116, 97, 103]⟩, Value.string ⟨#[104, 111, 115, 116]⟩, Value.string ⟨#[120, 45, 97]⟩, Value.string ⟨#[115, 101, 114, 118, 101, 114]⟩] : Array Value)[i]? = some (Value.string (nameN i)) := by
    obtain rfl | rfl | rfl | rfl | rfl : i = 0 ∨ i = 1 ∨ i = 2 ∨ i = 3 ∨ i = 4 := by omega
    all_goals rfl
  have hi5 : (i : Int) < 5 := y1
  generalize hnm : nameN (i : Int) = nm at hix
  have HNM := Lib.hid hnm
  clear hnm
  rw [← nameLoad_eq]
  go_region_held3 (fun w' => w'.cell? ⟨w.heap.size, 1, none⟩ = some (.int .i64 r.a) ∧ w'.cell? ⟨w.heap.size, 2, none⟩ = some (.int .i64 r.b) ∧ w'.cell? ⟨w.heap.size, 3, none⟩ = some (.string r.text)) (go_keep)
      (first
        | (go_at_call_of 17 (Value.int .i64 r.a); refine (picked_at _ _ _ o1.1 o1.2 (by decide) (by decide) HY _).mono ?_; rintro e w' ⟨rfl, rfl⟩)
        | (go_at_call_of 17 (Value.int .i64 r.b); refine (picked_at _ _ _ o2.1 o2.2 (by decide) (by decide) HM _).mono ?_; rintro e w' ⟨rfl, rfl⟩)
        | (go_at_call 30; refine (cut_any r.text m o3 (by omega) _).mono ?_; rintro e w' ⟨rfl, rfl⟩))
  all_goals
    go_wp2_with fail
    refine bodyPost_ret (v := .agg #[.string nm, .string (cutS r.text m)]) ?_ rfl ⟨by rw [HNM.out], ?_⟩
    · simp [results, Try.results12, go_sem, FC, hgl]
    · (repeat (first | with_reducible exact hb | with_reducible refine Below.drew ?_ | (with_reducible refine Below.set4 ?_ ?side _ _ _ _; case side => (first | omega | (simp; omega) | (simp; done))) | (with_reducible refine Below.setCell ?_ ?side _; case side => (first | omega | (simp; omega) | (simp; done))) | (with_reducible refine Below.alloc ?_ ?side _; case side => (first | omega | (simp; omega) | (simp; done)))))
end Go.Proofs.Ytdmonacekjcedaa
