/- The contract of fieldsOf: some fields that may be. -/
import Derived.Test.YtdmonacekjcedaaFDec
import Derived.Test.YtdmonacekjcedaaFieldOfWalk
import Derived.Test.YtdmonacekjcedaaSomeWalk
import Derived.Test.YtdmonacekjcedaaPickAt
import Derived.Test.YtdmonacekjcedaaRawOpen
import Derived.Deep.Cut
import Derived.Deep.CutBlock
import Derived.Deep.CutRange
import Derived.Deep.DeepCutAuto
namespace Go.Proofs.Ytdmonacekjcedaa
open Go.ChangeShapes Go.WideShapes Go.ChangeAt Go.RowKit
set_option linter.unusedVariables false

theorem OwnX.farF {α : Type} {f : α → List Value} {m : Nat} {w : World} {base : Nat} {E : TypeId} {A : Option Addr} {c : Nat} {xs : List α} (h : OwnX f m w base E A c xs) {p : Addr} (hp : ∀ k, A.map (·.block) = some k → k ≠ p.block) (u : Value) : OwnX f m (w.setCell p u) base E A c xs := own_far h (fun k hk => hp k (by rw [blk_of] at hk; exact hk)) u

set_option maxRecDepth 100000 in
set_option maxHeartbeats 4000000 in
theorem fieldsOf_any (A : Option Addr) (len cap : Nat) (rs : List RawD) (w : World) (h : IsRaws w A len cap rs) :
    Calls Try.prog 9 #[.slice A len cap] w fun e w' => ∃ (B : Option Addr) (m d : Nat) (fs : List Fld), e = .returned (.slice B m d) ∧ fs.length = m ∧ m ≤ 8 ∧ m ≤ d ∧ d ≤ 9223372036854775807 ∧ (∀ f ∈ fs, FOk f) ∧ RdX fcells 2 w' B fs ∧ Below w.heap.size w w' := by
  have hlc := h.2.2.1
  have hcm := h.2.2.2.1
  unfold maxLen at hcm
  obtain ⟨K, hk⟩ : ∃ k : Nat, min (len : Int) 8 = k := ⟨(min (len : Int) 8).toNat, by omega⟩
  have hk8 : K ≤ 8 := by omega
  have hkl : K ≤ len := by omega
  have HK := Lib.hid (some_any A len cap K 8 hlc hcm (by decide) (by decide) hk)
  have HRS := Lib.hid (h.front K hkl)
  clear h hk
  go_enter Try.func9, Try.ntmps9
  go_wp2_with fail
  refine (HK.out _).mono ?_
  rintro e1 w' ⟨rfl, rfl⟩
  go_wp2_with fail
  go_loopw [3, 11] (fun s3 iv wr => ∃ (k : Nat) (B : Option Addr) (d : Nat) (fs : List Fld), k ≤ K ∧ iv = .int .i64 (k : Int) ∧ s3 = .slice B k d ∧ fs.length = k ∧ (∀ f ∈ fs, FOk f) ∧ OwnX fcells 2 wr w.heap.size 39 B d fs ∧ Below w.heap.size w wr) (fun _ iv _ => K - (intOf iv).toNat)
  case atStart => exact ⟨0, none, 0, [], Nat.zero_le _, rfl, rfl, rfl, fun f hf => absurd hf List.not_mem_nil, OwnX.nil _ _ _, Below.refl _ _⟩
  case round =>
    obtain ⟨k, B, d, fs, hk, rfl, rfl, hfl, hok, hO, hb⟩ := hrel
    have HFL := Lib.hid hfl
    have HOK := Lib.hid hok
    have HO := Lib.hid hO
    have HB := Lib.hid hb
    clear hfl hok hO hb
    by_cases hlt : k < K
    · obtain ⟨b, off, rfl, hcell⟩ := (HRS.out.keep HB.out).at_ (by omega)
      obtain ⟨c0, c1, c2, c3⟩ := hcell k hlt
      have hro := HRS.out.2.2.2.2 k hlt
      generalize rs.take K = rs' at *
      generalize rs'.getD k rawNone = r at *
      have HRO := Lib.hid hro
      obtain ⟨o0, o1, o2, o3⟩ := hro
      obtain ⟨q, HQ, q0, q1⟩ := mod_ex r.kind 3 (by decide)
      obtain ⟨j, HJ, j0, j1⟩ := mod_ex r.a 4 (by decide)
      have hk0 : (0 : Int) ≤ (k : Int) := by omega
      have hk1 : (k : Int) < (K : Int) := by omega
      clear hcell
      go_upto_region 5 with (fail)
      refine wp_world (fun w' => Blk w' wr.heap.size 35 #[.int .i64 r.kind, .int .i64 r.a, .int .i64 r.b, .string r.text] ∧ Below wr.heap.size wr w') ⟨Blk.new _ _ _, (Below.refl _ _).alloc (Nat.le_refl _) _⟩ ?_
      rintro w2 ⟨hR2, hb2⟩
      have HO2 := Lib.hid (HO.out.carry hb2)
      have HB2 := Lib.hid (HB.out.trans (hb2.mono HB.out.size))
      have hBl : ∀ g, B.map (·.block) = some g → g < wr.heap.size := fun g hg => (HO.out.lt (n := k) g (by rw [blk_of]; exact hg)).2
      have HBL := Lib.hid hBl
      have FR := hR2.facts4
      have hwr : w.heap.size ≤ wr.heap.size := HB.out.size
      clear c0 c1 c2 c3 HO HB hb2 hBl
      obtain ⟨⟨x, y⟩, hF⟩ : ∃ F, fieldF r = F := ⟨_, rfl⟩
      have hfo : FOk (x, y) := by rw [← hF]; exact (fieldF_ok r).1
      go_wp2_with fail
      refine (fieldOf_any r HRO.out (x, y) hF _).mono ?_
      rintro e w3 ⟨rfl, hb3⟩
      have hR3 := hR2.carry hb3
      have HO3 := Lib.hid (HO2.out.carry hb3)
      have HB3 := Lib.hid (HB2.out.trans (hb3.mono HB2.out.size))
      have hgR3 := hR3.lt
      clear FR hR2 HO2 HB2 hb3 hF
      go_upto_region 6 with (fail)
      refine wp_world (fun w' => Blk w' w3.heap.size 39 #[.string x, .string y] ∧ Blk w' wr.heap.size 35 #[.int .i64 r.kind, .int .i64 r.a, .int .i64 r.b, .string r.text] ∧ OwnX fcells 2 w' w.heap.size 39 B d fs ∧ Below w.heap.size w w') ⟨Blk.new _ _ _, hR3.alloc _, HO3.out.alloc _, HB3.out.alloc HB3.out.size _⟩ ?_
      clear hR3 HO3 HB3
      generalize w3.heap.size = gF at *
      generalize wr.heap.size = gR at *
      rintro w4 ⟨hF4, hR4, hO4, hb4⟩
      have FR := hR4.facts4
      have hlF := hF4.lt
      have HF4 := Lib.hid hF4
      have HO4 := Lib.hid hO4
      have HB4 := Lib.hid hb4
      clear hF4 hO4 hb4
      go_wp2_with fail
      refine (picked_at r.kind 3 q o0.1 o0.2 (by decide) (by decide) HQ _).mono ?_
      rintro e w' ⟨rfl, rfl⟩
      go_upto_if 20 with (fail)
      go_cut [] (fun wx => ∃ (x' y' : ByteArray), FOk (x', y') ∧ Blk wx gF 39 #[.string x', .string y'] ∧ OwnX fcells 2 wx w.heap.size 39 B d fs ∧ Below w.heap.size w wx)
      case first =>
        -- [[iff
        by_cases c0 : q = 0
        · subst c0
          go_wp2_with fail
          refine (picked_at r.a 4 j o1.1 o1.2 (by decide) (by decide) HJ _).mono ?_
          rintro e w' ⟨rfl, rfl⟩
          have hfr0 := HF4.out.frozen 0
          have hfr1 := HF4.out.frozen 1
          have FF := HF4.out.two
          rcases (show j = 0 ∨ j = 1 ∨ j = 2 ∨ j = 3 by omega) with rfl | rfl | rfl | rfl
          all_goals
            go_wp2_with fail
            go_meet
            apply Exists.intro
            apply Exists.intro
            refine ⟨?fk, ?bk, ?ow, ?be⟩
            case bk => first | exact (((HF4.out.alloc _).set_ 0 _).set_ 1 _).as (by rfl) | exact (((HF4.out.set_ 0 _).set_ 1 _).as (by rfl)).alloc _
            case fk => exact ⟨by decide, by decide, by decide⟩
            case ow => (repeat (first | with_reducible exact HO4.out | with_reducible refine OwnX.alloc ?_ _ | ((with_reducible refine OwnX.farF ?_ ?s1 _); case s1 => (intro g hg; have := HBL.out g hg; show g ≠ gF; omega))))
            case be =>
              have h := HB4.out
              (repeat (first | with_reducible exact h | ((with_reducible refine Below.setCell ?_ ?s1 _); case s1 => (show w.heap.size ≤ gF; omega)) | ((with_reducible refine Below.alloc ?_ ?s2 _); case s2 => (first | exact h.size | (simp; exact h.size)))))
        · have hne : (q == 0) = false := by simp [c0]
          go_wp2_with fail
          go_meet
          exact ⟨x, y, hfo, HF4.out, HO4.out, HB4.out⟩
        -- ]]iff
      case rest =>
        -- [[rest
        obtain ⟨x', y', hfo', hF5, hO5, hb5⟩ := hcut
        have FF := hF5.two
        have HO5 := Lib.hid hO5
        have HB5 := Lib.hid hb5
        have HFO := Lib.hid hfo'
        have hz5 := hb5.size
        clear HF4 HO4 HB4 hO5 hb5 hF5 hfo' FR hR4
        go_wp2_with (at_builtin; refine wpList_addN fcells 2 32 fcells_len fcells_one' rfl (.tmp 32) (.tmp 34) _ rfl 39 _ Try.underlying23 fldInfo rfl (by decide) (by decide) w.heap.size B k d fs HFL.out rfl (HO5.out.alloc _) (x', y') wc.heap.size 1 rfl (Rd.new _ _ _ 2 rfl) (k + 1) rfl (by omega) (by simp; omega) ?_; intro g8 c8 w8 hO8 hc8 hm8 hb8 hgr8 hat8 hlt8)
        go_roundw
        case rel => exact ⟨k + 1, some ⟨g8, 0, none⟩, c8, fs ++ [(x', y')], by omega, by go_num, rfl, by rw [List.length_append, HFL.out]; rfl, fun f hf => by
            rcases List.mem_append.1 hf with h1 | h1
            · exact HOK.out f h1
            · rw [List.mem_singleton.1 h1]; exact HFO.out, hO8, (HB5.out.alloc hz5 _).trans hb8⟩
        case measure => first | (simp [intOf]; done) | (simp [intOf]; omega)
        -- ]]rest
    · obtain rfl : k = K := by omega
      have hcap := HO.out.cap
      rw [HFL.out] at hcap
      go_wp2_with fail
      go_ret
      exact ⟨B, k, d, fs, rfl, HFL.out, hk8, hcap.1, hcap.2, HOK.out, HO.out.rd, HB.out⟩
end Go.Proofs.Ytdmonacekjcedaa
