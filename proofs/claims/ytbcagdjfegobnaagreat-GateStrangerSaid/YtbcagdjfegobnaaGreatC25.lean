/- Texts of the proof, laid together: Mix MixWalk Lock TurnedWalk TagWalk SealWalk CutWalk. -/
import Derived.WalkKit
import Derived.Laws.Bits64
import Derived.Laws.BitsAllLaws
import Derived.Test.YtbcagdjfegobnaaGreatRows
import Derived.ProofKit
import Derived.OpenShut
import Derived.WalkSpells
import Derived.WalkLawsBesides
import Derived.Outline
import Derived.Test.YtbcagdjfegobnaaGreatC14
import Derived.Test.YtbcagdjfegobnaaGreatC00
import Derived.Deep.RegionWith
import Derived.BigRegion
import Derived.Test.YtbcagdjfegobnaaGreatC08
/- What lock.Mix computes, as_v a function of integers, and that it keeps apart what differs: for every two words. -/
namespace Go.Proofs.YtbcagdjfegobnaaGreat
open Go.RowKit
set_option linter.unusedVariables false

/-- One step of the mixing. -/
def mixStep (x s c : Int) : Int := IntKind.u64.wrap (bits .xor .u64 x (x / s) * c)
def mixA (x : Int) : Int := IntKind.u64.wrap (x + 11400714819323198485)
def mixB (x : Int) : Int := mixStep (mixA x) 1073741824 13787848793156543929
def mixC (x : Int) : Int := mixStep (mixB x) 134217728 10723151780598845931
/-- The mixed word. -/
def mixI (x : Int) : Int := bits .xor .u64 (mixC x) (mixC x / 2147483648)

/-- The key of a secret and a number. -/
def keyI (s n : Int) : Int := mixI (bits .xor .u64 (mixI s) (IntKind.u64.wrap n))

theorem wrap_range (n : Int) : 0 ≤ IntKind.u64.wrap n ∧ IntKind.u64.wrap n < 18446744073709551616 := by
  rw [IntKind.wrap_u64]; omega

theorem xor_range (a b : Int) : 0 ≤ bits .xor .u64 a b ∧ bits .xor .u64 a b < 18446744073709551616 := by
  have : ∃ n, bits .xor .u64 a b = IntKind.u64.wrap n := ⟨_, rfl⟩
  obtain ⟨n, hn⟩ := this
  rw [hn]; exact wrap_range _

theorem mixI_range (x : Int) : 0 ≤ mixI x ∧ mixI x < 18446744073709551616 := xor_range _ _
theorem keyI_range (s n : Int) : 0 ≤ keyI s n ∧ keyI s n < 18446744073709551616 := mixI_range _














end Go.Proofs.YtbcagdjfegobnaaGreat
/- The contracts of lock.Mix and lock.Key: each returns what the plain functions say, and leaves the world alone. -/
namespace Go.Proofs.YtbcagdjfegobnaaGreat
open Go.ChangeShapes Go.WideShapes Go.ChangeAt Go.RowKit
set_option linter.unusedVariables false

theorem mix_any (x : Int) (h0 : 0 ≤ x) (h1 : x < 18446744073709551616) (w : World) :
    Calls Tryz.prog 56 #[.int .u64 x] w fun e w' => e = .returned (.int .u64 (mixI x)) ∧ w = w' := by
  go_enter Tryz.func56, Tryz.ntmps56
  go_wp2
  go_ret
  exact ⟨rfl, rfl⟩

theorem key_any (s n : Int) (h0 : 0 ≤ s) (h1 : s < 18446744073709551616) (w : World) :
    Calls Tryz.prog 55 #[.int .u64 s, .int .i64 n] w fun e w' => e = .returned (.int .u64 (keyI s n)) ∧ w = w' := by
  have hx := xor_range (mixI s) (IntKind.u64.wrap n)
  go_enter Tryz.func55, Tryz.ntmps55
  go_wp2_with fail
  refine (mix_any s h0 h1 _).mono ?_
  rintro e w' ⟨rfl, rfl⟩
  go_wp2_with fail
  refine (mix_any _ hx.1 hx.2 _).mono ?_
  rintro e w' ⟨rfl, rfl⟩
  go_wp2_with fail
  go_ret
  exact ⟨rfl, rfl⟩
end Go.Proofs.YtbcagdjfegobnaaGreat
/- Plain: bytes that are locked, and opened again. -/
namespace Go.Proofs.YtbcagdjfegobnaaGreat
open Go.RowKit
set_option linter.unusedVariables false

/-- The word with which the turning begins. -/
def startI (key n : Int) : Int := mixI (bits .xor .u64 key (mixI (IntKind.u64.wrap n)))
theorem startI_range (key n : Int) : 0 ≤ startI key n ∧ startI key n < 18446744073709551616 := mixI_range _
/-- The word that turns byte i. -/
def ksW (start : Int) (i : Nat) : Int := mixI (IntKind.u64.wrap (start + (i : Int) / 8))
/-- The byte that turns byte i. -/
def ksB (start : Int) (i : Nat) : UInt8 := UInt8.ofNat (ksW start i / 2 ^ (8 * (i % 8))).toNat
theorem ksB_eq (start : Int) (i : Nat) : ksW start i / 2 ^ (8 * (i % 8)) % 256 = ((ksB start i).toNat : Int) := by
  have h := mixI_range (IntKind.u64.wrap (start + (i : Int) / 8))
  have h0 : 0 ≤ ksW start i / 2 ^ (8 * (i % 8)) := Int.ediv_nonneg h.1 (Int.le_of_lt (Int.pow_pos (by decide)))
  unfold ksB
  rw [UInt8.toNat_ofNat']
  generalize ksW start i / 2 ^ (8 * (i % 8)) = x at *
  omega
/-- The word shifted. -/
def ksY (start : Int) (i : Nat) : Int := ksW start i / 2 ^ (8 * (i % 8))
theorem ksY_shift (start : Int) (i : Nat) : Op.shift .shr .u64 (mixI (IntKind.u64.wrap (start + (i : Int) / 8))) .i64 (IntKind.i64.wrap (8 * (i : Int).tmod 8)) = pure (.int .u64 (ksY start i)) := by
  have e : IntKind.i64.wrap (8 * (i : Int).tmod 8) = ((8 * (i % 8) : Nat) : Int) := by
    rw [Int.tmod_eq_emod_of_nonneg (by omega), IntKind.wrap_i64]; omega
  rw [e, shift_shr .u64 .i64 _ _ (by omega) (by simp [IntKind.bits]; omega), Int.toNat_natCast]
  rfl
theorem ksY_wrap (start : Int) (i : Nat) : IntKind.u8.wrap (ksY start i) = ((ksB start i).toNat : Int) := by
  rw [IntKind.wrap_u8']; exact ksB_eq start i
theorem xor_u8 (a b : UInt8) : bits .xor .u8 (a.toNat : Int) (b.toNat : Int) = ((a ^^^ b).toNat : Int) := by
  rw [u8_xor_nat _ _ a.toNat_lt b.toNat_lt]; simp

/-- The bytes turned. -/
def turnB (start : Int) (bs : List UInt8) : List UInt8 := bs.mapIdx fun i b => b ^^^ ksB start i
theorem turnB_length (start : Int) (bs : List UInt8) : (turnB start bs).length = bs.length := by simp [turnB]
theorem turnB_twice (start : Int) (bs : List UInt8) : turnB start (turnB start bs) = bs := by
  apply List.ext_getElem
  · simp [turnB]
  · intro i h1 h2
    simp [turnB, UInt8.xor_assoc]
/-- The first k bytes turned. -/
def turnTo (start : Int) (bs : List UInt8) (k : Nat) : List UInt8 := (turnB start bs).take k ++ bs.drop k
theorem turnTo_length (start : Int) (bs : List UInt8) (k : Nat) : (turnTo start bs k).length = bs.length := by
  simp [turnTo, turnB]; omega
theorem turnTo_zero (start : Int) (bs : List UInt8) : turnTo start bs 0 = bs := by simp [turnTo]
theorem turnTo_all (start : Int) (bs : List UInt8) : turnTo start bs bs.length = turnB start bs := by
  unfold turnTo; rw [List.take_of_length_le (by rw [turnB_length]; exact Nat.le_refl _)]; simp
theorem turnTo_get (start : Int) (bs : List UInt8) (k : Nat) (h : k < bs.length) : (turnTo start bs k).getD k 0 = bs.getD k 0 := by
  unfold turnTo
  simp only [List.getD]
  rw [List.getElem?_append_right (by simp [turnB]; omega), List.length_take, turnB_length, Nat.min_eq_left (by omega), Nat.sub_self, List.getElem?_drop, Nat.add_zero]
theorem turnTo_set (start : Int) (bs : List UInt8) (k : Nat) (h : k < bs.length) : (turnTo start bs k).set k (bs.getD k 0 ^^^ ksB start k) = turnTo start bs (k + 1) := by
  unfold turnTo
  rw [List.set_append_right _ _ (by simp [turnB]; omega), List.length_take, turnB_length, Nat.min_eq_left (by omega), Nat.sub_self, List.drop_eq_getElem_cons h, List.set_cons_zero, List.take_succ_eq_append_getElem (by rw [turnB_length]; exact h), List.append_assoc]
  simp [turnB, List.getD, h]

/-- The word of one part's bytes. -/
def tagBytes (h : Int) (bs : List UInt8) : Int := bs.foldl (fun h c => mixI (bits .xor .u64 h (c.toNat : Int))) h
/-- The word of a part: its bytes, and how many they are. -/
def tagPart (h : Int) (bs : List UInt8) : Int := mixI (bits .xor .u64 (tagBytes h bs) (IntKind.u64.wrap ((bs.length : Int) * 256)))
/-- The word of two parts. -/
def tagW (key n : Int) (p q : List UInt8) : Int := tagPart (tagPart (bits .xor .u64 (mixI key) (IntKind.u64.wrap n)) p) q
def tagB (key n : Int) (p q : List UInt8) : List UInt8 := beB 8 (tagW key n p q).toNat
theorem tagB_length (key n : Int) (p q : List UInt8) : (tagB key n p q).length = 8 := beB_length _ _
theorem tagBytes_take (h : Int) (bs : List UInt8) (k : Nat) (hk : k < bs.length) : tagBytes h (bs.take (k + 1)) = mixI (bits .xor .u64 (tagBytes h (bs.take k)) ((bs.getD k 0).toNat : Int)) := by
  unfold tagBytes
  rw [List.take_succ_eq_append_getElem hk, List.foldl_append]
  simp [List.getD, hk]

/-- What is sealed. -/
def sealB (key n : Int) (hd t : List UInt8) : List UInt8 := turnB (startI key n) t ++ tagB key n hd t
theorem sealB_length (key n : Int) (hd t : List UInt8) : (sealB key n hd t).length = t.length + 8 := by simp [sealB, turnB_length, tagB_length]
/-- The text of sealed bytes. -/
def openT (key n : Int) (b : List UInt8) : List UInt8 := turnB (startI key n) (b.take (b.length - 8))
/-- Does it open? -/
def opens (key n : Int) (hd b : List UInt8) : Bool := tagB key n hd (openT key n b) == b.drop (b.length - 8)
theorem open_seal (key n : Int) (hd t : List UInt8) : openT key n (sealB key n hd t) = t ∧ opens key n hd (sealB key n hd t) = true := by
  have h1 : openT key n (sealB key n hd t) = t := by
    unfold openT
    rw [sealB_length, Nat.add_sub_cancel]
    have : (sealB key n hd t).take t.length = turnB (startI key n) t := by
      have := List.take_left (l₁ := turnB (startI key n) t) (l₂ := tagB key n hd t)
      rwa [turnB_length] at this
    rw [this, turnB_twice]
  refine ⟨h1, ?_⟩
  unfold opens
  rw [h1, sealB_length, Nat.add_sub_cancel]
  have : (sealB key n hd t).drop t.length = tagB key n hd t := by
    have := List.drop_left (l₁ := turnB (startI key n) t) (l₂ := tagB key n hd t)
    rwa [turnB_length] at this
  rw [this]; simp
end Go.Proofs.YtbcagdjfegobnaaGreat
/- The contract of lock.turned. -/
namespace Go.Proofs.YtbcagdjfegobnaaGreat
open Go.ChangeShapes Go.WideShapes Go.ChangeAt Go.RowKit
set_option linter.unusedVariables false

theorem u8_infoT : (Tryz.prog.info? 5).map (fun i => (i.zero, i.size, i.bytes)) = some (some (.int .u8 0), 1, 1) := by kernel_rfl

set_option maxRecDepth 100000 in
set_option maxHeartbeats 1000000 in
theorem turned_any (key n : Int) (hk0 : 0 ≤ key) (hk1 : key < 18446744073709551616) (A : Option Addr) (bs : List UInt8) (len cap : Nat) (hl : bs.length = len) (w : World) (h : RdB w A bs) (hs : len ≤ 140737488355328) :
    Calls Tryz.prog 88 #[.int .u64 key, .int .i64 n, .slice A len cap] w fun e w' => ∃ A' c', e = .returned (.slice A' len c') ∧ OwnB w' w.heap.size 5 A' c' (turnB (startI key n) bs) ∧ Below w.heap.size w w' := by
  have rn := wrap_range n
  have rx := xor_range key (mixI (IntKind.u64.wrap n))
  have HL := Lib.hid hl
  have HS : Hid (startI key n = mixI (bits .xor .u64 key (mixI (IntKind.u64.wrap n)))) := rfl
  have rs := startI_range key n
  have hb0 : Below w.heap.size w (w.alloc (.cells #[] 5)) := (Below.refl _ _).alloc (Nat.le_refl _) _
  have HR := Lib.hid (h.below hb0)
  clear hl h
  go_enter Tryz.func88, Tryz.ntmps88
  go_wp2_with fail
  refine (mix_any _ rn.1 rn.2 _).mono ?_
  rintro e w' ⟨rfl, rfl⟩
  go_wp2_with fail
  refine (mix_any _ rx.1 rx.2 _).mono ?_
  rintro e w' ⟨rfl, rfl⟩
  rw [← HS.out]
  generalize hst : startI key n = st at *
  have HST := Lib.hid hst
  clear rx rn HS hst
  go_wp2_with (at_builtin
               refine wpList_appB _ rfl (.tmp 16) (.tmp 17) _ rfl w.heap.size 5 Tryz.underlying30 u8_infoT (some ⟨w.heap.size, 0, none⟩) 0 0 [] rfl rfl (OwnB.made w _ _ (Nat.le_refl _)) A len cap bs rfl HL.out HR.out bs rfl len (Nat.zero_add _) (by omega) (by simp) ?_
               intro A1 c1 w1 hO1 hc1 hc1' hb1)
  have hbw := hb0.trans hb1
  clear hb0 hb1
  go_loopw [21] (fun i wr => ∃ k : Nat, k ≤ len ∧ i = .int .i64 k ∧ OwnB wr w.heap.size 5 A1 c1 (turnTo st bs k) ∧ Below w.heap.size w wr) (fun i _ => len - (intOf i).toNat)
  case atStart => exact ⟨0, Nat.zero_le _, rfl, by rw [turnTo_zero]; exact hO1, hbw⟩
  case round =>
    obtain ⟨k, hk, rfl, hO, hb⟩ := hrel
    clear hO1 hbw
    by_cases hlt : k < len
    · have hlk : k < bs.length := by rw [HL.out]; exact hlt
      obtain ⟨g, rfl, hg, hgl, hcell, hfro, hset⟩ := hO.opened (by rw [turnTo_length, HL.out]; omega)
      have hc := hcell k (by rw [turnTo_length, HL.out]; omega)
      rw [turnTo_get st bs k hlk] at hc
      have hf := hfro k
      have hs := hset k (bs.getD k 0 ^^^ ksB st k)
      rw [turnTo_set st bs k hlk] at hs
      have HSET := Lib.hid hs
      generalize bs.getD k 0 = b0 at *
      clear hcell hfro hset hO hs hlk
      have rw := wrap_range (st + (k : Int) / 8)
      have q1 : IntKind.i64.wrap ((k : Int) / 8) = (k : Int) / 8 := IntWalk.i64_in _ (by omega)
      have q3 := ksY_shift st k
      have q4 := ksY_wrap st k
      have q5 := xor_u8 b0 (ksB st k)
      have q2 : IntKind.u64.wrap ((k : Int) / 8) = (k : Int) / 8 := by rw [IntKind.wrap_u64]; omega
      go_wp2_with fail
      go_region_with (go_at_call 56; refine (mix_any _ (by omega) (by omega) _).mono ?_; rintro e w' ⟨rfl, rfl⟩)
      all_goals
        go_wp2_with fail
        go_roundw
        case rel => exact ⟨k + 1, by omega, by go_num, HSET.out, (hb.drew).setCell hg _⟩
        case measure => simp [intOf]; omega
    · have hO' : OwnB wr w.heap.size 5 A1 c1 (turnB st bs) := by
        rw [← turnTo_all st bs, HL.out, show len = k from by omega]; exact hO
      clear hO
      go_wp2_with fail
      go_ret
      exact ⟨A1, c1, rfl, by rw [HST.out]; exact hO', hb⟩
end Go.Proofs.YtbcagdjfegobnaaGreat
/- The contract of lock.tag, at two parts. -/
namespace Go.Proofs.YtbcagdjfegobnaaGreat
open Go.ChangeShapes Go.WideShapes Go.ChangeAt Go.RowKit
set_option linter.unusedVariables false

theorem u8_infoG : (Tryz.prog.info? 5).map (fun i => (i.zero, i.size, i.bytes)) = some (some (.int .u8 0), 1, 1) := by kernel_rfl

set_option maxRecDepth 100000 in
set_option maxHeartbeats 2000000 in
theorem tag_any (key n : Int) (hk0 : 0 ≤ key) (hk1 : key < 18446744073709551616) (g cg : Nat) (A1 A2 : Option Addr) (p q : List UInt8) (l1 c1 l2 c2 : Nat) (hl1 : p.length = l1) (hl2 : q.length = l2) (w : World)
    (h1 : RdB w A1 p) (h2 : RdB w A2 q) (hc1 : w.cell? ⟨g, 0, none⟩ = some (.slice A1 l1 c1)) (hc2 : w.cell? ⟨g, 1, none⟩ = some (.slice A2 l2 c2)) (hs1 : l1 ≤ 9223372036854775807) (hs2 : l2 ≤ 9223372036854775807) :
    Calls Tryz.prog 89 #[.int .u64 key, .int .i64 n, .slice (some ⟨g, 0, none⟩) 2 cg] w fun e w' =>
      e = .returned (.slice (some ⟨w.heap.size, 0, none⟩) 8 8) ∧ Blk w' w.heap.size 5 (u8s (tagB key n p q)).toArray ∧ Below w.heap.size w w' := by
  have r0 := xor_range (mixI key) (IntKind.u64.wrap n)
  have HL1 := Lib.hid hl1
  have HL2 := Lib.hid hl2
  have HT : Hid (tagW key n p q = tagPart (tagPart (bits .xor .u64 (mixI key) (IntKind.u64.wrap n)) p) q) := rfl
  have HR1 := Lib.hid h1
  have HR2 := Lib.hid h2
  clear hl1 hl2 h1 h2
  go_enter Tryz.func89, Tryz.ntmps89
  go_wp2_with fail
  refine (mix_any _ hk0 hk1 _).mono ?_
  rintro e w' ⟨rfl, rfl⟩
  go_wp2_with fail
  generalize bits .xor .u64 (mixI key) (IntKind.u64.wrap n) = h0 at *
  refine wp_loop_rounds 3 ?_
  rw [rounds_succ]
  go_wp2_with fail
  go_loop [7, 27] (fun h i => ∃ k : Nat, k ≤ l1 ∧ i = .int .i64 k ∧ h = .int .u64 (tagBytes h0 (p.take k))) (fun _ i => l1 - (intOf i).toNat)
  case atStart => exact ⟨0, Nat.zero_le _, rfl, rfl⟩
  case round =>
    obtain ⟨k, hk, rfl, rfl⟩ := hrel
    by_cases hlt : k < l1
    · obtain ⟨b, off, rfl, hcell⟩ := HR1.out.cell (by rw [HL1.out]; omega)
      have hc := hcell k (by rw [HL1.out]; exact hlt)
      have HS := Lib.hid (tagBytes_take h0 p k (by rw [HL1.out]; exact hlt))
      have hx := xor_range (tagBytes h0 (p.take k)) ((p.getD k 0).toNat : Int)
      clear hcell
      generalize tagBytes h0 (p.take k) = hh at *
      generalize (p.getD k 0) = b0 at *
      have hb0 : (b0.toNat : Int) < 256 := by have := b0.toNat_lt; omega
      go_wp2_with fail
      refine (mix_any _ hx.1 hx.2 _).mono ?_
      rintro e w' ⟨rfl, rfl⟩
      clear hx
      go_wp2_with fail
      go_round
      case rel => exact ⟨k + 1, by omega, by go_num, by rw [HS.out]⟩
      case measure => simp [intOf]; omega
    · rw [List.take_of_length_le (show p.length ≤ k by rw [HL1.out]; omega)]
      have HP : Hid (tagPart h0 p = mixI (bits .xor .u64 (tagBytes h0 p) (IntKind.u64.wrap ((l1 : Int) * 256)))) := by show tagPart h0 p = _; unfold tagPart; rw [HL1.out]
      have hx1 := xor_range (tagBytes h0 p) (IntKind.u64.wrap ((l1 : Int) * 256))
      have hr1 := mixI_range (bits .xor .u64 (tagBytes h0 p) (IntKind.u64.wrap ((l1 : Int) * 256)))
      generalize tagBytes h0 p = hp at *
      go_wp2_with fail
      clear hk hlt
      refine (mix_any _ hx1.1 hx1.2 _).mono ?_
      rintro e w' ⟨rfl, rfl⟩
      rw [← HP.out]
      rw [← HP.out] at hr1
      generalize tagPart h0 p = h3 at *
      clear HP hx1
      go_wp2_with fail
      rw [rounds_succ]
      go_wp2_with fail
      go_loop [7, 27] (fun h i => ∃ k : Nat, k ≤ l2 ∧ i = .int .i64 k ∧ h = .int .u64 (tagBytes h3 (q.take k))) (fun _ i => l2 - (intOf i).toNat)
      case atStart => exact ⟨0, Nat.zero_le _, rfl, rfl⟩
      case round =>
        obtain ⟨k, hk, rfl, rfl⟩ := hrel
        by_cases hlt : k < l2
        · obtain ⟨b, off, rfl, hcell⟩ := HR2.out.cell (by rw [HL2.out]; omega)
          have hc := hcell k (by rw [HL2.out]; exact hlt)
          have HS := Lib.hid (tagBytes_take h3 q k (by rw [HL2.out]; exact hlt))
          have hx := xor_range (tagBytes h3 (q.take k)) ((q.getD k 0).toNat : Int)
          clear hcell
          generalize tagBytes h3 (q.take k) = hh at *
          generalize (q.getD k 0) = b0 at *
          have hb0 : (b0.toNat : Int) < 256 := by have := b0.toNat_lt; omega
          go_wp2_with fail
          refine (mix_any _ hx.1 hx.2 _).mono ?_
          rintro e w' ⟨rfl, rfl⟩
          clear hx
          go_wp2_with fail
          go_round
          case rel => exact ⟨k + 1, by omega, by go_num, by rw [HS.out]⟩
          case measure => simp [intOf]; omega
        · rw [List.take_of_length_le (show q.length ≤ k by rw [HL2.out]; omega)]
          have HP2 : Hid (tagPart h3 q = mixI (bits .xor .u64 (tagBytes h3 q) (IntKind.u64.wrap ((l2 : Int) * 256)))) := by show tagPart h3 q = _; unfold tagPart; rw [HL2.out]
          have hx2 := xor_range (tagBytes h3 q) (IntKind.u64.wrap ((l2 : Int) * 256))
          have hwr := mixI_range (bits .xor .u64 (tagBytes h3 q) (IntKind.u64.wrap ((l2 : Int) * 256)))
          generalize tagBytes h3 q = hq at *
          go_wp2_with fail
          refine (mix_any _ hx2.1 hx2.2 _).mono ?_
          rintro e w' ⟨rfl, rfl⟩
          rw [← HP2.out]
          rw [← HP2.out] at hwr
          have HW : Hid (tagW key n p q = tagPart h3 q) := HT.out
          generalize tagPart h3 q = hw at *
          clear HP2 hx2 HT
          have hmk : ∀ W, (Instr.makeSlice 30 (.int .i64 8) (.int .i64 8)).run Tryz.prog W = .ok (.slice (some ⟨W.heap.size, 0, none⟩) 8 8) (W.alloc (.cells (madeCells #[.int .u8 0] 8) 5)) :=
            fun W => run_make_row' 30 5 (.int .u8 0) 1 Tryz.underlying30 u8_infoG rfl .i64 .i64 8 (by omega) (by omega) W
          obtain ⟨N, hN⟩ : ∃ N : Nat, hw = (N : Int) := Int.eq_ofNat_of_zero_le hwr.1
          have hB0 : Blk (w.alloc (.cells (madeCells #[.int .u8 0] 8) 5)) w.heap.size 5 (u8s ((beB 8 N).take 0 ++ List.replicate (8 - 0) 0)).toArray := by
            have := Blk.new w 5 (madeCells #[.int .u8 0] 8)
            rw [zeros_u8] at this ⊢
            simpa using this
          have hb0 : Below w.heap.size w (w.alloc (.cells (madeCells #[.int .u8 0] 8) 5)) := (Below.refl _ _).alloc (Nat.le_refl _) _
          have HB0 := Lib.hid hB0
          subst hN
          clear hB0 hc1 hc2 hk hlt hs1 hs2
          go_wp2_with fail
          rw [rounds_succ]
          go_wp2_with fail
          go_loopw [48] (fun i wr => ∃ k : Nat, k ≤ 8 ∧ i = .int .i64 k ∧ Blk wr w.heap.size 5 (u8s ((beB 8 N).take k ++ List.replicate (8 - k) 0)).toArray ∧ Below w.heap.size w wr) (fun i _ => 8 - (intOf i).toNat)
          case atStart => exact ⟨0, Nat.zero_le _, rfl, HB0.out, hb0⟩
          case round =>
            obtain ⟨k, hk, rfl, hB, hb⟩ := hrel
            clear hb0 hmk HB0
            by_cases hlt : k < 8
            · have hl : ((beB 8 N).take k ++ List.replicate (8 - k) 0).length = 8 := by simp [beB_length]; omega
              have hc : wr.cell? ⟨w.heap.size, k, none⟩ = some (.int .u8 ((((beB 8 N).take k ++ List.replicate (8 - k) 0).getD k 0).toNat : Int)) := by
                rw [hB.cell]; exact u8s_at _ _ (by omega)
              have hf := hB.frozen k
              have HB := Lib.hid hB
              clear hB hl
              go_wp2_with fail
              go_roundw
              case rel =>
                refine ⟨k + 1, by omega, by go_num, ?_, hb.setCell (Nat.le_refl _) _⟩
                have := HB.out.set_ k (.int .u8 (((beB 8 N).getD k 0).toNat : Int))
                rw [u8s_set, fill_set _ 8 k (beB_length _ _) hlt, ← eight_byte N k hlt] at this
                exact this
              case measure => simp [intOf]; omega
            · obtain rfl : k = 8 := by omega
              rw [List.take_of_length_le (by simp [beB_length])] at hB
              simp only [Nat.sub_self, List.replicate_zero, List.append_nil] at hB
              have HB := Lib.hid hB
              clear hB
              go_wp2_with fail
              go_ret
              refine ⟨rfl, ?_, hb⟩
              have hfin : tagB key n p q = beB 8 N := by unfold tagB; rw [HW.out]; rfl
              rw [hfin]; exact HB.out
end Go.Proofs.YtbcagdjfegobnaaGreat
/- The contracts of lock.Seal and lock.Open. -/
namespace Go.Proofs.YtbcagdjfegobnaaGreat
open Go.ChangeShapes Go.WideShapes Go.ChangeAt Go.RowKit
set_option linter.unusedVariables false

theorem beq_eq (a b : List UInt8) : ((byt a).toList == (byt b).toList) = (a == b) := by rw [byt_toList, byt_toList]
theorem strN {w : World} {A : Option Addr} {bs : List UInt8} {n c : Nat} (h : RdB w A bs) (hn : bs.length = n) : (convert 30 9 (.slice A n c)).run Tryz.prog w = .ok (.string (byt bs)) w := by
  subst hn; exact h.str 30 9 5 c Tryz.underlying30 Tryz.underlying5 Tryz.underlying9
theorem str8 {w W : World} {bs : List UInt8} {o : Obj} (h : RdB w (some ⟨(W.alloc o).drew.heap.size, 0, none⟩) bs) (hn : bs.length = 8) : (convert 30 9 (.slice (some ⟨W.heap.size + 1, 0, none⟩) 8 8)).run Tryz.prog w = .ok (.string (byt bs)) w :=
  strN (by simpa using h) hn

set_option maxRecDepth 100000 in
set_option maxHeartbeats 1000000 in
theorem seal_any (key n : Int) (hk0 : 0 ≤ key) (hk1 : key < 18446744073709551616) (A1 A2 : Option Addr) (p q : List UInt8) (l1 c1 l2 c2 : Nat) (hl1 : p.length = l1) (hl2 : q.length = l2) (w : World)
    (h1 : RdB w A1 p) (h2 : RdB w A2 q) (hs1 : l1 ≤ 9223372036854775807) (hs2 : l2 ≤ 140737488355320) (L : Nat) (hL : l2 + 8 = L) :
    Calls Tryz.prog 54 #[.int .u64 key, .int .i64 n, .slice A1 l1 c1, .slice A2 l2 c2] w fun e w' =>
      ∃ A c, e = .returned (.slice A L c) ∧ OwnB w' w.heap.size 5 A c (sealB key n p q) ∧ c ≤ 9223372036854775807 ∧ Below w.heap.size w w' := by
  have HL1 := Lib.hid hl1
  have HL2 := Lib.hid hl2
  have HL := Lib.hid hL
  have HS : Hid (sealB key n p q = turnB (startI key n) q ++ tagB key n p q) := rfl
  clear hl1 hl2 hL
  go_enter Tryz.func54, Tryz.ntmps54
  go_wp2_with fail
  refine (turned_any key n hk0 hk1 A2 q l2 c2 HL2.out _ h2 (by omega)).mono ?_
  rintro e w1 ⟨A3, c3, rfl, hO, hb1⟩
  have hr1 := h1.below hb1
  have hr2 := h2.below hb1
  clear h1 h2
  go_wp2_with fail
  have hbx : Below w1.heap.size w1 (w1.alloc (.cells #[.slice A1 l1 c1, .slice A2 l2 c2] 30)) := (Below.refl _ _).alloc (Nat.le_refl _) _
  have hB := Blk.new w1 30 #[.slice A1 l1 c1, .slice A2 l2 c2]
  obtain ⟨x0, x1, _, _⟩ := hB.two
  refine (tag_any key n hk0 hk1 w1.heap.size 2 A1 A2 p q l1 c1 l2 c2 HL1.out HL2.out _ (hr1.below hbx) (hr2.below hbx) x0 x1 hs1 (by omega)).mono ?_
  rintro e w2 ⟨rfl, hB2, hb2⟩
  have hb12 : Below w1.heap.size w1 w2 := hbx.trans (hb2.mono (by simp))
  have hO2 := hO.below hb12 (Nat.le_refl _)
  have hR : RdB w2 (some ⟨w1.heap.size + 1, 0, none⟩) (tagB key n p q) := by simpa using hB2.rdB
  have hz1 := hb1.size
  have hz2 := hb12.size
  have HTL := Lib.hid (tagB_length key n p q)
  have HUL : Hid ((turnB (startI key n) q).length = l2) := by show _ = _; rw [turnB_length, HL2.out]
  clear hB x0 x1 hbx hr1 hr2 hO hB2 hb2
  go_wp2_with (at_builtin
               refine wpList_appB _ rfl (.tmp 12) (.tmp 18) _ rfl w.heap.size 5 Tryz.underlying30 u8_infoT A3 l2 c3 _ rfl HUL.out hO2 _ 8 8 _ rfl HTL.out hR _ HS.out.symm L HL.out (by omega) (by omega) ?_
               intro A' c' w3 hO3 hc3 hc3' hb3)
  go_ret
  exact ⟨A', c', rfl, hO3, hc3', hb1.trans ((hb12.mono hz1).trans hb3)⟩

theorem open_short (key n : Int) (A1 A2 : Option Addr) (l1 c1 l2 c2 : Nat) (h : l2 < 8) (w : World) :
    Calls Tryz.prog 66 #[.int .u64 key, .int .i64 n, .slice A1 l1 c1, .slice A2 l2 c2] w fun e w' => e = .returned (.tuple #[.slice none 0 0, .int .i64 4]) ∧ w = w' := by
  go_enter Tryz.func66, Tryz.ntmps66
  go_wp2_with fail
  go_ret2
  exact ⟨rfl, rfl⟩

set_option maxRecDepth 100000 in
set_option maxHeartbeats 1000000 in
theorem open_any (key n : Int) (hk0 : 0 ≤ key) (hk1 : key < 18446744073709551616) (A1 A2 : Option Addr) (p b : List UInt8) (l1 c1 l2 c2 : Nat) (hl1 : p.length = l1) (hl2 : b.length = l2) (w : World)
    (h1 : RdB w A1 p) (h2 : RdB w A2 b) (hs1 : l1 ≤ 9223372036854775807) (hs2 : l2 ≤ 140737488355328) (h8 : 8 ≤ l2) (hc2 : l2 ≤ c2) (hc2' : c2 ≤ 9223372036854775807) (m : Nat) (hm : m + 8 = l2) :
    Calls Tryz.prog 66 #[.int .u64 key, .int .i64 n, .slice A1 l1 c1, .slice A2 l2 c2] w fun e w' =>
      (opens key n p b = true ∧ ∃ A c, e = .returned (.tuple #[.slice A m c, .int .i64 0]) ∧ OwnB w' w.heap.size 5 A c (openT key n b) ∧ c ≤ 9223372036854775807 ∧ Below w.heap.size w w') ∨
      (opens key n p b = false ∧ e = .returned (.tuple #[.slice none 0 0, .int .i64 10]) ∧ Below w.heap.size w w') := by
  have HL1 := Lib.hid hl1
  have HL2 := Lib.hid hl2
  have hm' : (l2 : Int) - 8 = (m : Int) := by omega
  have HTK : Hid ((b.take m).length = m) := by show (b.take m).length = m; rw [List.length_take, hl2]; omega
  have HDR : Hid ((b.drop m).length = 8) := by show (b.drop m).length = 8; rw [List.length_drop, hl2]; omega
  have HOT : Hid (openT key n b = turnB (startI key n) (b.take m)) := by show openT key n b = _; unfold openT; rw [hl2, show l2 - 8 = m from by omega]
  have HOP : Hid (opens key n p b = (tagB key n p (openT key n b) == b.drop m)) := by show opens key n p b = _; unfold opens; rw [hl2, show l2 - 8 = m from by omega]
  have hf2 : RdB w A2 (b.take m) := h2.front (by rw [hl2]; omega)
  clear hl1 hl2
  have hm0 : m ≤ l2 := by omega
  have hdr := RdB.cut (k := m) (cap := c2) h2 (by rw [HL2.out]; omega) (by rw [HL2.out]; omega)
  obtain ⟨bb, off, rfl, _⟩ := h2.cell (by rw [HL2.out]; omega)
  rw [if_neg (by omega)] at hdr
  have hd2 : RdB w (some ⟨bb, off + m, none⟩) (b.drop m) := by simpa [add_none] using hdr
  clear hdr
  go_enter Tryz.func66, Tryz.ntmps66
  go_wp2_with fail
  refine (turned_any key n hk0 hk1 _ (b.take m) m _ HTK.out _ hf2 (by omega)).mono ?_
  rintro e w1 ⟨A3, c3, rfl, hO, hb1⟩
  rw [← HOT.out] at hO
  have hr1 := h1.below hb1
  have hr2 := hd2.below hb1
  have hcp := hO.cap
  clear h1 h2 hf2 hd2
  have HTO : Hid ((openT key n b).length = m) := by show (openT key n b).length = m; rw [HOT.out, turnB_length, HTK.out]
  generalize htx : openT key n b = tx at *
  have HTX := Lib.hid htx
  clear htx
  rw [HTO.out] at hcp
  go_wp2_with fail
  have hbx : Below w1.heap.size w1 (w1.alloc (.cells #[.slice A1 l1 c1, .slice A3 m c3] 30)).drew := ((Below.refl _ _).alloc (Nat.le_refl _) _).drew
  have hB := Blk.new w1 30 #[.slice A1 l1 c1, .slice A3 m c3]
  obtain ⟨x0, x1, _, _⟩ := hB.two
  have e0 : (convert 30 9 (.slice (some ⟨bb, off + m, none⟩) (l2 - m) (c2 - m))).run Tryz.prog w1.drew = .ok (.string (byt (b.drop m))) w1.drew := by
    have := RdB.str (w := w1.drew) hr2 (P := Tryz.prog) 30 9 5 (c2 - m) Tryz.underlying30 Tryz.underlying5 Tryz.underlying9
    rwa [HDR.out, show 8 = l2 - m from by omega] at this
  have e1 : (convert 30 9 (.slice (some ⟨bb, off + m, none⟩) (l2 - m) (c2 - m))).run Tryz.prog (w1.alloc (.cells #[.slice A1 l1 c1, .slice A3 m c3] 30)).drew = .ok (.string (byt (b.drop m))) (w1.alloc (.cells #[.slice A1 l1 c1, .slice A3 m c3] 30)).drew := by
    have := RdB.str (hr2.below hbx) (P := Tryz.prog) 30 9 5 (c2 - m) Tryz.underlying30 Tryz.underlying5 Tryz.underlying9
    rwa [HDR.out, show 8 = l2 - m from by omega] at this
  have HO := Lib.hid hO
  have hRO := hO.rd
  clear hO hB
  have HOF := Lib.hid (beq_eq (tagB key n p tx) (b.drop m))
  by_cases hop : opens key n p b = true
  · have he : ((byt (tagB key n p tx)).toList == (byt (b.drop m)).toList) = true := by rw [HOF.out, ← HOP.out]; exact hop
    have HQ := Lib.hid hop
    clear hop
    go_region_with (go_at_call 89; refine (tag_any key n hk0 hk1 w1.heap.size 2 A1 A3 p tx l1 c1 m c3 HL1.out HTO.out _ (RdB.below hr1 hbx) (RdB.below hRO hbx) x0 x1 hs1 (by omega)).mono ?_; rintro e w2 ⟨rfl, hB2, hb2⟩
                    have hb3 : Below w1.heap.size w1 w2 := hbx.trans (hb2.mono (by simp))
                    have s1 : (convert 30 9 (.slice (some ⟨w1.heap.size + 1, 0, none⟩) 8 8)).run Tryz.prog w2 = .ok (.string (byt (tagB key n p tx))) w2 := str8 hB2.rdB (tagB_length _ _ _ _)
                    have s2 : (convert 30 9 (.slice (some ⟨bb, off + m, none⟩) (l2 - m) (c2 - m))).run Tryz.prog w2 = .ok (.string (byt (b.drop m))) w2 := strN (hr2.below hb3) (by rw [HDR.out]; omega))
    all_goals
      go_wp2_with fail
      go_ret2
      refine Or.inl ⟨HQ.out, A3, c3, rfl, ?_, by unfold maxLen at hcp; omega, hb1.trans (hb3.mono hb1.size)⟩
      rw [HTX.out]; exact HO.out.below hb3 (Nat.le_refl _)
  · have hop' : opens key n p b = false := by simpa using hop
    have he : ((byt (tagB key n p tx)).toList == (byt (b.drop m)).toList) = false := by rw [HOF.out, ← HOP.out]; exact hop'
    have HQ := Lib.hid hop'
    clear hop hop'
    go_region_with (go_at_call 89; refine (tag_any key n hk0 hk1 w1.heap.size 2 A1 A3 p tx l1 c1 m c3 HL1.out HTO.out _ (RdB.below hr1 hbx) (RdB.below hRO hbx) x0 x1 hs1 (by omega)).mono ?_; rintro e w2 ⟨rfl, hB2, hb2⟩
                    have hb3 : Below w1.heap.size w1 w2 := hbx.trans (hb2.mono (by simp))
                    have s1 : (convert 30 9 (.slice (some ⟨w1.heap.size + 1, 0, none⟩) 8 8)).run Tryz.prog w2 = .ok (.string (byt (tagB key n p tx))) w2 := str8 hB2.rdB (tagB_length _ _ _ _)
                    have s2 : (convert 30 9 (.slice (some ⟨bb, off + m, none⟩) (l2 - m) (c2 - m))).run Tryz.prog w2 = .ok (.string (byt (b.drop m))) w2 := strN (hr2.below hb3) (by rw [HDR.out]; omega))
    all_goals
      go_wp2_with fail
      go_ret2
      exact Or.inr ⟨HQ.out, rfl, hb1.trans (hb3.mono hb1.size)⟩
end Go.Proofs.YtbcagdjfegobnaaGreat
/- The contract of packno.Cut. -/
namespace Go.Proofs.YtbcagdjfegobnaaGreat
open Go.ChangeShapes Go.WideShapes Go.ChangeAt Go.RowKit
set_option linter.unusedVariables false

theorem u8_info : (Tryz.prog.info? 5).map (fun i => (i.zero, i.size, i.bytes)) = some (some (.int .u8 0), 1, 1) := by kernel_rfl

set_option maxRecDepth 100000 in
set_option maxHeartbeats 1000000 in
theorem cut_1 (n : Nat) (a : Int) (h1 : (n : Int) ≤ 4611686018427387903) (ha : -1 ≤ a) (han : a < n) (hd : 0 < n - a) (hd2 : n - a ≤ 128) (w : World) :
    Calls Tryz.prog 52 #[.int .i64 n, .int .i64 a] w fun e w' => ∃ A c, e = .returned (.tuple #[.slice A 1 c, .int .i64 0]) ∧ OwnB w' w.heap.size 5 A c (beB 1 n) ∧ Below w.heap.size w w' := by
  go_enter Tryz.func52, Tryz.ntmps52
  go_wp2_with fail
  refine wp_loop_rounds 1 ?_
  iterate 1 (rw [rounds_succ]; go_wp2_with fail)
  refine wp_loop_rounds 2 ?_
  rw [rounds_succ]
  have HB := Lib.hid (show (n : Int) % 256 = ((UInt8.ofNat n).toNat : Int) from by simp)
  go_wp2_with (at_builtin
               refine wpList_appB _ rfl (.tmp 42) (.tmp 48) _ rfl w.heap.size 5 Tryz.underlying30 u8_info none 0 0 [] rfl rfl (OwnB.nil _ _ _) (some ⟨w.heap.size, 0, none⟩) 1 1 [UInt8.ofNat n] rfl rfl (RdB.one _ _ _ _ HB.out) [UInt8.ofNat n] rfl 1 rfl (by omega) (by simp) ?_
               intro A' c' w2 hO2 hc2 hc2' hb2)
  rw [rounds_succ]
  have hb3 : Below w.heap.size w w2 := ((Below.refl _ _).alloc (Nat.le_refl _) _).trans hb2
  go_wp2_with fail
  go_ret2
  exact ⟨A', c', rfl, by simpa [beB] using hO2, hb3⟩

set_option maxRecDepth 100000 in
set_option maxHeartbeats 1000000 in
theorem cut_2 (n : Nat) (a : Int) (h1 : (n : Int) ≤ 4611686018427387903) (ha : -1 ≤ a) (han : a < n) (hd : 128 < n - a) (hd2 : n - a ≤ 32768) (w : World) :
    Calls Tryz.prog 52 #[.int .i64 n, .int .i64 a] w fun e w' => ∃ A c, e = .returned (.tuple #[.slice A 2 c, .int .i64 0]) ∧ OwnB w' w.heap.size 5 A c (beB 2 n) ∧ Below w.heap.size w w' := by
  go_enter Tryz.func52, Tryz.ntmps52
  go_wp2_with fail
  refine wp_loop_rounds 2 ?_
  iterate 2 (rw [rounds_succ]; go_wp2_with fail)
  go_loopw [7, 8] (fun v i wr => ∃ (m : Nat) (A : Option Addr) (c : Nat), m ≤ 2 ∧ i = .int .i64 ((m : Int) - 1) ∧ v = .slice A (2 - m) c ∧
      OwnB wr w.heap.size 5 A c ((beB 2 n).take (2 - m)) ∧ Below w.heap.size w wr) (fun _ i _ => (intOf i + 1).toNat)
  case atStart => exact ⟨2, none, 0, Nat.le_refl _, rfl, rfl, OwnB.nil _ _ _, Below.refl _ _⟩
  case round =>
    obtain ⟨m, A, c, hm, rfl, rfl, hO, hb⟩ := hrel
    by_cases hlt : 1 ≤ m
    · have HN := Lib.hid (beB_take 2 n m hlt hm)
      have HL := Lib.hid (beB_take_length 2 n m)
      have hcap := hO.cap
      have HB := Lib.hid (byte_shift n (m - 1))
      go_wp2_with (at_builtin
                   refine wpList_appB _ rfl (.tmp 42) (.tmp 48) _ rfl w.heap.size 5 Tryz.underlying30 u8_info A (2 - m) c _ rfl HL.out (hO.below ((Below.refl _ _).alloc (Nat.le_refl _) _) (Nat.le_refl _)) (some ⟨wr.heap.size, 0, none⟩) 1 1 [UInt8.ofNat (n / 256 ^ (m - 1))] rfl rfl (RdB.one _ _ _ _ HB.out) _ HN.out (2 - m + 1) rfl (by omega) (by have := hb.size; simp; omega) ?_
                   intro A' c' w2 hO2 hc2 hc2' hb2)
      go_roundw
      case rel => exact ⟨m - 1, A', c', by omega, by congr 1; omega, by congr 1; omega, hO2, (hb.alloc hb.size _).trans hb2⟩
      case measure => simp [intOf]; omega
    · obtain rfl : m = 0 := by omega
      have hcap := hO.cap
      rw [List.take_of_length_le (by simp [beB_length])] at hO
      go_wp2_with fail
      go_ret2
      exact ⟨_, _, rfl, hO, hb⟩
set_option maxRecDepth 100000 in
set_option maxHeartbeats 1000000 in
theorem cut_3 (n : Nat) (a : Int) (h1 : (n : Int) ≤ 4611686018427387903) (ha : -1 ≤ a) (han : a < n) (hd : 32768 < n - a) (hd2 : n - a ≤ 8388608) (w : World) :
    Calls Tryz.prog 52 #[.int .i64 n, .int .i64 a] w fun e w' => ∃ A c, e = .returned (.tuple #[.slice A 3 c, .int .i64 0]) ∧ OwnB w' w.heap.size 5 A c (beB 3 n) ∧ Below w.heap.size w w' := by
  go_enter Tryz.func52, Tryz.ntmps52
  go_wp2_with fail
  refine wp_loop_rounds 3 ?_
  iterate 3 (rw [rounds_succ]; go_wp2_with fail)
  go_loopw [7, 8] (fun v i wr => ∃ (m : Nat) (A : Option Addr) (c : Nat), m ≤ 3 ∧ i = .int .i64 ((m : Int) - 1) ∧ v = .slice A (3 - m) c ∧
      OwnB wr w.heap.size 5 A c ((beB 3 n).take (3 - m)) ∧ Below w.heap.size w wr) (fun _ i _ => (intOf i + 1).toNat)
  case atStart => exact ⟨3, none, 0, Nat.le_refl _, rfl, rfl, OwnB.nil _ _ _, Below.refl _ _⟩
  case round =>
    obtain ⟨m, A, c, hm, rfl, rfl, hO, hb⟩ := hrel
    by_cases hlt : 1 ≤ m
    · have HN := Lib.hid (beB_take 3 n m hlt hm)
      have HL := Lib.hid (beB_take_length 3 n m)
      have hcap := hO.cap
      have HB := Lib.hid (byte_shift n (m - 1))
      go_wp2_with (at_builtin
                   refine wpList_appB _ rfl (.tmp 42) (.tmp 48) _ rfl w.heap.size 5 Tryz.underlying30 u8_info A (3 - m) c _ rfl HL.out (hO.below ((Below.refl _ _).alloc (Nat.le_refl _) _) (Nat.le_refl _)) (some ⟨wr.heap.size, 0, none⟩) 1 1 [UInt8.ofNat (n / 256 ^ (m - 1))] rfl rfl (RdB.one _ _ _ _ HB.out) _ HN.out (3 - m + 1) rfl (by omega) (by have := hb.size; simp; omega) ?_
                   intro A' c' w2 hO2 hc2 hc2' hb2)
      go_roundw
      case rel => exact ⟨m - 1, A', c', by omega, by congr 1; omega, by congr 1; omega, hO2, (hb.alloc hb.size _).trans hb2⟩
      case measure => simp [intOf]; omega
    · obtain rfl : m = 0 := by omega
      have hcap := hO.cap
      rw [List.take_of_length_le (by simp [beB_length])] at hO
      go_wp2_with fail
      go_ret2
      exact ⟨_, _, rfl, hO, hb⟩
set_option maxRecDepth 100000 in
set_option maxHeartbeats 1000000 in
theorem cut_4 (n : Nat) (a : Int) (h1 : (n : Int) ≤ 4611686018427387903) (ha : -1 ≤ a) (han : a < n) (hd : 8388608 < n - a) (hd2 : n - a ≤ 2147483648) (w : World) :
    Calls Tryz.prog 52 #[.int .i64 n, .int .i64 a] w fun e w' => ∃ A c, e = .returned (.tuple #[.slice A 4 c, .int .i64 0]) ∧ OwnB w' w.heap.size 5 A c (beB 4 n) ∧ Below w.heap.size w w' := by
  go_enter Tryz.func52, Tryz.ntmps52
  go_wp2_with fail
  refine wp_loop_rounds 4 ?_
  iterate 4 (rw [rounds_succ]; go_wp2_with fail)
  go_loopw [7, 8] (fun v i wr => ∃ (m : Nat) (A : Option Addr) (c : Nat), m ≤ 4 ∧ i = .int .i64 ((m : Int) - 1) ∧ v = .slice A (4 - m) c ∧
      OwnB wr w.heap.size 5 A c ((beB 4 n).take (4 - m)) ∧ Below w.heap.size w wr) (fun _ i _ => (intOf i + 1).toNat)
  case atStart => exact ⟨4, none, 0, Nat.le_refl _, rfl, rfl, OwnB.nil _ _ _, Below.refl _ _⟩
  case round =>
    obtain ⟨m, A, c, hm, rfl, rfl, hO, hb⟩ := hrel
    by_cases hlt : 1 ≤ m
    · have HN := Lib.hid (beB_take 4 n m hlt hm)
      have HL := Lib.hid (beB_take_length 4 n m)
      have hcap := hO.cap
      have HB := Lib.hid (byte_shift n (m - 1))
      go_wp2_with (at_builtin
                   refine wpList_appB _ rfl (.tmp 42) (.tmp 48) _ rfl w.heap.size 5 Tryz.underlying30 u8_info A (4 - m) c _ rfl HL.out (hO.below ((Below.refl _ _).alloc (Nat.le_refl _) _) (Nat.le_refl _)) (some ⟨wr.heap.size, 0, none⟩) 1 1 [UInt8.ofNat (n / 256 ^ (m - 1))] rfl rfl (RdB.one _ _ _ _ HB.out) _ HN.out (4 - m + 1) rfl (by omega) (by have := hb.size; simp; omega) ?_
                   intro A' c' w2 hO2 hc2 hc2' hb2)
      go_roundw
      case rel => exact ⟨m - 1, A', c', by omega, by congr 1; omega, by congr 1; omega, hO2, (hb.alloc hb.size _).trans hb2⟩
      case measure => simp [intOf]; omega
    · obtain rfl : m = 0 := by omega
      have hcap := hO.cap
      rw [List.take_of_length_le (by simp [beB_length])] at hO
      go_wp2_with fail
      go_ret2
      exact ⟨_, _, rfl, hO, hb⟩


/-- A number cut for one who is not too far behind. -/
theorem cut_any (n : Nat) (a : Int) (h1 : (n : Int) ≤ 4611686018427387903) (ha : -1 ≤ a) (han : a < n) (hd : n - a ≤ 2147483648) (w : World) :
    Calls Tryz.prog 52 #[.int .i64 n, .int .i64 a] w fun e w' => ∃ A c, e = .returned (.tuple #[.slice A (cutK (n - a).toNat) c, .int .i64 0]) ∧ OwnB w' w.heap.size 5 A c (beB (cutK (n - a).toNat) n) ∧ Below w.heap.size w w' := by
  have h := cutK_cases (n - a).toNat
  rcases h with ⟨e, h⟩ | ⟨e, h, h'⟩ | ⟨e, h, h'⟩ | ⟨e, h⟩
  · rw [e]; exact cut_1 n a h1 ha han (by omega) (by omega) w
  · rw [e]; exact cut_2 n a h1 ha han (by omega) (by omega) w
  · rw [e]; exact cut_3 n a h1 ha han (by omega) (by omega) w
  · rw [e]; exact cut_4 n a h1 ha han (by omega) (by omega) w

end Go.Proofs.YtbcagdjfegobnaaGreat
