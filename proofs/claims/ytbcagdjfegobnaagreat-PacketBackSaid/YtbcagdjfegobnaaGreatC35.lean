/- Texts of the proof, laid together: MakeWalk. -/
import Derived.Test.YtbcagdjfegobnaaGreatC29
import Derived.Test.YtbcagdjfegobnaaGreatC15
import Derived.Test.YtbcagdjfegobnaaGreatC33
/- The contract of token.Make. -/
namespace Go.Proofs.YtbcagdjfegobnaaGreat
open Go.ChangeShapes Go.WideShapes Go.ChangeAt Go.RowKit
set_option linter.unusedVariables false

theorem make_bad (s a t : Int) (ht : t < 0) (w : World) :
    Calls Tryz.prog 128 #[.int .u64 s, .int .i64 a, .int .i64 t] w fun e w' => e = .returned (.tuple #[.slice none 0 0, .int .i64 6]) ∧ w = w' := by
  go_enter Tryz.func128, Tryz.ntmps128
  go_wp2_with fail
  go_ret2
  exact ⟨rfl, rfl⟩

set_option maxRecDepth 100000 in
theorem make_any (s a t : Int) (hs0 : 0 ≤ s) (hs1 : s < 18446744073709551616) (ht0 : 0 ≤ t) (ht1 : t ≤ 1099511627776) (w : World) :
    Calls Tryz.prog 128 #[.int .u64 s, .int .i64 a, .int .i64 t] w fun e w' => ∃ A c, e = .returned (.tuple #[.slice A 16 c, .int .i64 0]) ∧ OwnB w' w.heap.size 5 A c (tokB s a t) ∧ c ≤ 9223372036854775807 ∧ Below w.heap.size w w' := by
  have hw : IntKind.u64.wrap t = t := by rw [IntKind.wrap_u64]; omega
  have hk := keyI_range s a
  have hx := xor_range (keyI s a) (mixI t)
  have hm := mixI_range (bits .xor .u64 (keyI s a) (mixI t))
  have HT : Hid (tokB s a t = beB 8 t.toNat ++ beB 8 (mixI (bits .xor .u64 (keyI s a) (mixI t))).toNat) := rfl
  go_enter Tryz.func128, Tryz.ntmps128
  go_wp2_with fail
  refine (eight_any t ht0 (by omega) _).mono ?_
  rintro e w1 ⟨rfl, hB1, hb1⟩
  go_wp2_with fail
  refine (key_any _ _ hs0 hs1 _).mono ?_
  rintro e w' ⟨rfl, rfl⟩
  go_wp2_with fail
  refine (mix_any t ht0 (by omega) _).mono ?_
  rintro e w' ⟨rfl, rfl⟩
  go_wp2_with fail
  refine (mix_any _ hx.1 hx.2 _).mono ?_
  rintro e w' ⟨rfl, rfl⟩
  go_wp2_with fail
  refine (eight_any _ hm.1 hm.2 _).mono ?_
  rintro e w2 ⟨rfl, hB2, hb2⟩
  have hO1 : OwnB w1 w.heap.size 5 (some ⟨w.heap.size, 0, none⟩) 8 (beB 8 t.toNat) := by
    have := hB1.ownB (base := w.heap.size) (Nat.le_refl _) (by rw [beB_length]; decide)
    rwa [beB_length] at this
  have hO := hO1.below hb2 (Nat.le_refl _)
  have hR := hB2.rdB
  have hs12 := hb2.size
  have hs01 := hb1.size
  clear hO1 hB1 hB2
  go_wp2_with (at_builtin
               refine wpList_appB _ rfl (.tmp 18) (.tmp 27) _ rfl w.heap.size 5 Tryz.underlying30 u8_info8 (some ⟨w.heap.size, 0, none⟩) 8 8 _ rfl (beB_length _ _) hO (some ⟨w1.heap.size, 0, none⟩) 8 8 _ rfl (beB_length _ _) hR _ HT.out.symm 16 rfl (by omega) (by omega) ?_
               intro A' c' w3 hO3 hc3 hc3' hb3)
  go_ret2
  exact ⟨A', c', rfl, hO3, hc3', hb1.trans ((hb2.mono hs01).trans hb3)⟩
end Go.Proofs.YtbcagdjfegobnaaGreat
