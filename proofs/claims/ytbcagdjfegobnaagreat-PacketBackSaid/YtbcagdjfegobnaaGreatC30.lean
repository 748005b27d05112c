/- Texts of the proof, laid together: Gate4 PktBack HeadDecWalk HeadDec2Walk HeadDec3Walk. -/
import Derived.Test.YtbcagdjfegobnaaGreatC28
import Derived.Test.YtbcagdjfegobnaaGreatC29
import Derived.Test.YtbcagdjfegobnaaGreatC12
import Derived.Test.YtbcagdjfegobnaaGreatC18
import Derived.Test.YtbcagdjfegobnaaGreatC14
/- Gates: words and their bytes; who greets: the contracts of eight, Word, hello. -/
namespace Go.Proofs.YtbcagdjfegobnaaGreat
open Go.ChangeShapes Go.WideShapes Go.ChangeAt Go.RowKit
set_option linter.unusedVariables false

set_option maxRecDepth 100000 in
set_option maxHeartbeats 1000000 in
theorem gEight_nat (n : Nat) (h1 : n < 18446744073709551616) (w : World) :
    Calls Tryz.prog 101 #[.int .u64 n] w fun e w' =>
      e = .returned (.slice (some ⟨w.heap.size, 0, none⟩) 8 8) ∧ Blk w' w.heap.size 5 (u8s (beB 8 n)).toArray ∧ Below w.heap.size w w' := by
  have hmk : ∀ W, (Instr.makeSlice 30 (.int .i64 8) (.int .i64 8)).run Tryz.prog W = .ok (.slice (some ⟨W.heap.size, 0, none⟩) 8 8) (W.alloc (.cells (madeCells #[.int .u8 0] 8) 5)) :=
    fun W => run_make_row' 30 5 (.int .u8 0) 1 Tryz.underlying30 u8_info8 rfl .i64 .i64 8 (by omega) (by omega) W
  have hB0 : Blk (w.alloc (.cells (madeCells #[.int .u8 0] 8) 5)) w.heap.size 5 (u8s ((beB 8 n).take 0 ++ List.replicate (8 - 0) 0)).toArray := by
    have := Blk.new w 5 (madeCells #[.int .u8 0] 8)
    rw [zeros_u8] at this ⊢
    simpa using this
  have hb0 : Below w.heap.size w (w.alloc (.cells (madeCells #[.int .u8 0] 8) 5)) := (Below.refl _ _).alloc (Nat.le_refl _) _
  have HB0 := Lib.hid hB0
  clear hB0
  go_enter Tryz.func101, Tryz.ntmps101
  go_wp2_with fail
  go_loopw [8] (fun i wr => ∃ k : Nat, k ≤ 8 ∧ i = .int .i64 k ∧ Blk wr w.heap.size 5 (u8s ((beB 8 n).take k ++ List.replicate (8 - k) 0)).toArray ∧ Below w.heap.size w wr) (fun i _ => 8 - (intOf i).toNat)
  case atStart => exact ⟨0, Nat.zero_le _, rfl, HB0.out, hb0⟩
  case round =>
    obtain ⟨k, hk, rfl, hB, hb⟩ := hrel
    clear hb0 hmk HB0
    by_cases hlt : k < 8
    · have hl : ((beB 8 n).take k ++ List.replicate (8 - k) 0).length = 8 := by simp [beB_length]; omega
      have hc : wr.cell? ⟨w.heap.size, k, none⟩ = some (.int .u8 ((((beB 8 n).take k ++ List.replicate (8 - k) 0).getD k 0).toNat : Int)) := by
        rw [hB.cell]; exact u8s_at _ _ (by omega)
      have hf := hB.frozen k
      have HB := Lib.hid hB
      clear hB hl
      go_wp2_with fail
      go_roundw
      case rel =>
        refine ⟨k + 1, by omega, by go_num, ?_, hb.setCell (Nat.le_refl _) _⟩
        have := HB.out.set_ k (.int .u8 (((beB 8 n).getD k 0).toNat : Int))
        rw [u8s_set, fill_set _ 8 k (beB_length _ _) hlt, ← eight_byte n k hlt] at this
        exact this
      case measure => simp [intOf]; omega
    · obtain rfl : k = 8 := by omega
      rw [List.take_of_length_le (by simp [beB_length])] at hB
      simp only [Nat.sub_self, List.replicate_zero, List.append_nil] at hB
      have HB := Lib.hid hB
      clear hB
      go_wp2_with fail
      go_ret
      exact ⟨rfl, HB.out, hb⟩

theorem gEight_any (x : Int) (h0 : 0 ≤ x) (h1 : x < 18446744073709551616) (w : World) :
    Calls Tryz.prog 101 #[.int .u64 x] w fun e w' =>
      e = .returned (.slice (some ⟨w.heap.size, 0, none⟩) 8 8) ∧ Blk w' w.heap.size 5 (u8s (beB 8 x.toNat)).toArray ∧ Below w.heap.size w w' := by
  have h := gEight_nat x.toNat (by omega) w
  rwa [show ((x.toNat : Nat) : Int) = x from by omega] at h
set_option maxRecDepth 100000 in
set_option maxHeartbeats 1000000 in
theorem cEight_nat (n : Nat) (h1 : n < 18446744073709551616) (w : World) :
    Calls Tryz.prog 74 #[.int .u64 n] w fun e w' =>
      e = .returned (.slice (some ⟨w.heap.size, 0, none⟩) 8 8) ∧ Blk w' w.heap.size 5 (u8s (beB 8 n)).toArray ∧ Below w.heap.size w w' := by
  have hmk : ∀ W, (Instr.makeSlice 30 (.int .i64 8) (.int .i64 8)).run Tryz.prog W = .ok (.slice (some ⟨W.heap.size, 0, none⟩) 8 8) (W.alloc (.cells (madeCells #[.int .u8 0] 8) 5)) :=
    fun W => run_make_row' 30 5 (.int .u8 0) 1 Tryz.underlying30 u8_info8 rfl .i64 .i64 8 (by omega) (by omega) W
  have hB0 : Blk (w.alloc (.cells (madeCells #[.int .u8 0] 8) 5)) w.heap.size 5 (u8s ((beB 8 n).take 0 ++ List.replicate (8 - 0) 0)).toArray := by
    have := Blk.new w 5 (madeCells #[.int .u8 0] 8)
    rw [zeros_u8] at this ⊢
    simpa using this
  have hb0 : Below w.heap.size w (w.alloc (.cells (madeCells #[.int .u8 0] 8) 5)) := (Below.refl _ _).alloc (Nat.le_refl _) _
  have HB0 := Lib.hid hB0
  clear hB0
  go_enter Tryz.func74, Tryz.ntmps74
  go_wp2_with fail
  go_loopw [8] (fun i wr => ∃ k : Nat, k ≤ 8 ∧ i = .int .i64 k ∧ Blk wr w.heap.size 5 (u8s ((beB 8 n).take k ++ List.replicate (8 - k) 0)).toArray ∧ Below w.heap.size w wr) (fun i _ => 8 - (intOf i).toNat)
  case atStart => exact ⟨0, Nat.zero_le _, rfl, HB0.out, hb0⟩
  case round =>
    obtain ⟨k, hk, rfl, hB, hb⟩ := hrel
    clear hb0 hmk HB0
    by_cases hlt : k < 8
    · have hl : ((beB 8 n).take k ++ List.replicate (8 - k) 0).length = 8 := by simp [beB_length]; omega
      have hc : wr.cell? ⟨w.heap.size, k, none⟩ = some (.int .u8 ((((beB 8 n).take k ++ List.replicate (8 - k) 0).getD k 0).toNat : Int)) := by
        rw [hB.cell]; exact u8s_at _ _ (by omega)
      have hf := hB.frozen k
      have HB := Lib.hid hB
      clear hB hl
      go_wp2_with fail
      go_roundw
      case rel =>
        refine ⟨k + 1, by omega, by go_num, ?_, hb.setCell (Nat.le_refl _) _⟩
        have := HB.out.set_ k (.int .u8 (((beB 8 n).getD k 0).toNat : Int))
        rw [u8s_set, fill_set _ 8 k (beB_length _ _) hlt, ← eight_byte n k hlt] at this
        exact this
      case measure => simp [intOf]; omega
    · obtain rfl : k = 8 := by omega
      rw [List.take_of_length_le (by simp [beB_length])] at hB
      simp only [Nat.sub_self, List.replicate_zero, List.append_nil] at hB
      have HB := Lib.hid hB
      clear hB
      go_wp2_with fail
      go_ret
      exact ⟨rfl, HB.out, hb⟩

theorem cEight_any (x : Int) (h0 : 0 ≤ x) (h1 : x < 18446744073709551616) (w : World) :
    Calls Tryz.prog 74 #[.int .u64 x] w fun e w' =>
      e = .returned (.slice (some ⟨w.heap.size, 0, none⟩) 8 8) ∧ Blk w' w.heap.size 5 (u8s (beB 8 x.toNat)).toArray ∧ Below w.heap.size w w' := by
  have h := cEight_nat x.toNat (by omega) w
  rwa [show ((x.toNat : Nat) : Int) = x from by omega] at h

theorem or_u64_nat (a b : Nat) (ha : a < 18446744073709551616) (hb : b < 18446744073709551616) : bits .or .u64 (a : Int) (b : Int) = ((a ||| b : Nat) : Int) := by
  have hx : a ||| b < 2 ^ 64 := Nat.or_lt_two_pow (by omega) (by omega)
  have h1 : (BitVec.ofInt 64 (a : Int)).toNat = a := by
    rw [BitVec.ofInt_natCast, BitVec.toNat_ofNat]; exact Nat.mod_eq_of_lt (by omega)
  have h2 : (BitVec.ofInt 64 (b : Int)).toNat = b := by
    rw [BitVec.ofInt_natCast, BitVec.toNat_ofNat]; exact Nat.mod_eq_of_lt (by omega)
  show IntKind.u64.wrap ((BitVec.ofInt 64 (a : Int) ||| BitVec.ofInt 64 (b : Int)).toNat : Int) = _
  rw [BitVec.toNat_or, h1, h2, IntKind.wrap_u64]
  omega
theorem or_byte64 (N c : Nat) (hN : N < 72057594037927936) (hc : c < 256) : bits .or .u64 ((N : Int) * 256) (c : Int) = ((N * 256 + c : Nat) : Int) := by
  have e : (N : Int) * 256 = ((N * 256 : Nat) : Int) := by omega
  rw [e, or_u64_nat _ _ (by omega) (by omega), nat_join 8 (N * 256) c (by omega) (by omega)]
theorem valB_take7 (bs : List UInt8) (k : Nat) (h : k < 8) : valB (bs.take k) 0 < 72057594037927936 := by
  have h1 := valB_lt (bs.take k) 0 1 (by decide)
  have hl : (bs.take k).length ≤ 7 := by rw [List.length_take]; omega
  have : 256 ^ (bs.take k).length ≤ 256 ^ 7 := Nat.pow_le_pow_right (by decide) hl
  omega

set_option maxRecDepth 100000 in
set_option maxHeartbeats 2000000 in
theorem word_8 (A : Option Addr) (bs : List UInt8) (c : Nat) (w : World) (hn : bs.length = 8) (hr : RdB w A bs) (hc : 8 ≤ c) (hm : c ≤ 9223372036854775807) :
    Calls Tryz.prog 109 #[.slice A 8 c] w fun e w' => e = .returned (.int .u64 (valB bs 0 : Nat)) ∧ w = w' := by
  obtain ⟨b, off, rfl, hcell⟩ := hr.cell (by omega)
  have HC := Lib.hid hcell
  have HN := Lib.hid hn
  have hc0 : ¬ c = 0 := by omega
  clear hcell hr hn
  go_enter Tryz.func109, Tryz.ntmps109
  go_wp2_with fail
  go_loop [3, 12] (fun s3 s12 => ∃ k : Nat, k ≤ 8 ∧ s12 = .int .i64 k ∧ s3 = .int .u64 (valB (bs.take k) 0 : Nat)) (fun _ s12 => 8 - (intOf s12).toNat)
  case atStart => exact ⟨0, Nat.zero_le _, rfl, rfl⟩
  case round =>
    obtain ⟨k, hk, rfl, rfl⟩ := hrel
    by_cases hlt : k < 8
    · have h1 := HC.out k (by rw [HN.out]; exact hlt)
      have h7 := valB_take7 bs k hlt
      have HS := Lib.hid (valB_take bs 0 k (by rw [HN.out]; exact hlt))
      generalize bs.getD k 0 = x at *
      generalize valB (bs.take k) 0 = N at *
      have h9 : (x.toNat : Int) < 256 := by have := x.toNat_lt; omega
      have HO := Lib.hid (or_byte64 N x.toNat h7 (by omega))
      have hNi : (N : Int) < 72057594037927936 := by omega
      have hw : IntKind.u64.wrap ((N : Int) * 256) = (N : Int) * 256 := by rw [IntKind.wrap_u64]; omega
      have hk8 : (k : Int) < 8 := by omega
      go_wp2_with fail
      go_round
      case rel => exact ⟨k + 1, by omega, by go_num, by rw [HS.out, ← HO.out]⟩
      case measure => simp [intOf]; omega
    · obtain rfl : k = 8 := by omega
      rw [List.take_of_length_le (by rw [HN.out]; exact Nat.le_refl _)]
      go_wp2_with fail
      go_ret
      exact ⟨rfl, rfl⟩

/-- Does a frame greet? -/
def greets (f : FrD) : Bool := f.kind == 6 && (f.off == 0 && f.data.length == 8)
/-- The word of who begins. -/
def helloF (fs : List FrD) : Nat × Bool := match fs.find? greets with
  | some f => (valB f.data 0, true)
  | none => (0, false)
theorem helloF_none {fs : List FrD} (h : fs.any greets = false) : helloF fs = (0, false) := by
  have : fs.find? greets = none := by
    rw [List.find?_eq_none]
    intro x hx
    have := List.any_eq_false.1 h x hx
    simpa using this
  simp [helloF, this]
theorem helloF_some {fs : List FrD} {k : Nat} (hk : k < fs.length) (h0 : (fs.take k).any greets = false) (h1 : greets (fs.getD k fnil) = true) : helloF fs = (valB (fs.getD k fnil).data 0, true) := by
  have : fs.find? greets = some (fs.getD k fnil) := by
    rw [List.find?_eq_some_iff_getElem]
    refine ⟨h1, k, hk, by simp [List.getD, hk], fun j hj => ?_⟩
    have := List.any_eq_false.1 h0 (fs[j]'(by omega)) (by
      rw [List.mem_take_iff_getElem]
      exact ⟨j, by omega, rfl⟩)
    simpa using this
  simp [helloF, this]

set_option maxRecDepth 100000 in
set_option maxHeartbeats 4000000 in
theorem hello_any (L : Option Addr) (m c : Nat) (xs : List FrM) (hm : xs.length = m) (hm100 : m ≤ 100) (hmc : m ≤ c) (hcm : c ≤ 9223372036854775807) (w : World) (hL : FrRd w L xs) :
    Calls Tryz.prog 94 #[.slice L m c] w fun e w' => e = .returned (.tuple #[.int .u64 ((helloF (xs.map (·.f))).1 : Nat), .bool (helloF (xs.map (·.f))).2]) ∧ Below w.heap.size w w' := by
  have HM := Lib.hid hm
  have HL := Lib.hid hL
  obtain ⟨R, hR⟩ : ∃ R, helloF (xs.map (·.f)) = R := ⟨_, rfl⟩
  rw [hR]
  have HR := Lib.hid hR
  clear hm hL hR
  go_enter Tryz.func94, Tryz.ntmps94
  go_wp2_with fail
  go_loopw [8] (fun s8 wr => ∃ k : Nat, k ≤ m ∧ s8 = .int .i64 k ∧ Hid (((xs.take k).map (·.f)).any greets = false) ∧ Below w.heap.size w wr) (fun s8 _ => m - (intOf s8).toNat)
  case atStart => exact ⟨0, Nat.zero_le _, rfl, by show _ = _; simp, Below.refl _ _⟩
  case round =>
    obtain ⟨k, hk, rfl, hno, hb⟩ := hrel
    by_cases hlt : k < m
    · have hkx : k < xs.length := by rw [HM.out]; exact hlt
      have hLr := HL.out.below hb
      obtain ⟨bl, ol, rfl, hcell⟩ := hLr.at_ (by omega)
      have hmem : xs.getD k fmn ∈ xs := by simp [List.getD, hkx]
      have hXr := hLr.2 _ hmem
      have cc0 := hcell k hkx
      have HG1 : Hid (greets (xs.getD k fmn).f = true → R = (valB (xs.getD k fmn).f.data 0, true)) := Lib.hid fun hg => by
        rw [← HR.out]
        have e : (xs.map (·.f)).getD k fnil = (xs.getD k fmn).f := by simp [List.getD, hkx]
        rw [← e] at hg ⊢
        exact helloF_some (by simpa using hkx) (by rw [← List.map_take]; exact hno.out) hg
      have HG2 : Hid (greets (xs.getD k fmn).f = false → ((xs.take (k + 1)).map (·.f)).any greets = false) := Lib.hid fun hg => by
        rw [takeD xs k fmn hkx, List.map_append, List.any_append, hno.out]
        simpa using hg
      generalize xs.getD k fmn = x at *
      obtain ⟨f, xA, xc, xB, xd⟩ := x
      have p0 := cc0 0 _ (by decide) rfl
      have p1 := cc0 1 _ (by decide) rfl
      have p2 := cc0 2 _ (by decide) rfl
      have p3 := cc0 3 _ (by decide) rfl
      have p4 := cc0 4 _ (by decide) rfl
      have p5 := cc0 5 _ (by decide) rfl
      have p6 := cc0 6 _ (by decide) rfl
      have HXR := Lib.hid hXr
      simp only [Nat.add_zero] at p0
      have hkm : (k : Int) < (m : Int) := by omega
      have HB := Lib.hid hb
      clear hcell cc0 hXr hLr hmem hkx hb
      go_upto_region 4 with (fail)
      obtain ⟨gF, hgF⟩ : ∃ q, wr.heap.size = q := ⟨_, rfl⟩
      refine wp_world (fun w' => Blk w' gF 68 #[.int .i64 f.kind, .int .i64 f.id, .int .i64 f.off, .bool f.fin, .int .i64 f.code, .slice xA f.rngs.length xc, .slice xB f.data.length xd] ∧ FrX w' ⟨f, xA, xc, xB, xd⟩ ∧ Below w.heap.size w w') ⟨Blk.newR hgF, HXR.out.below ((Below.refl _ _).alloc (Nat.le_refl _) _), HB.out.alloc HB.out.size _⟩ ?_
      try rw [hgF]
      clear p0 p1 p2 p3 p4 p5 p6 HXR HB hgF
      rintro w5 ⟨hF, hX5, hb5⟩
      have FF := hF.c7
      have hdn : f.data.length ≤ xd := hX5.2.2.2.2.1
      have hdm : xd ≤ 9223372036854775807 := hX5.2.2.2.2.2
      have HX5 := Lib.hid hX5
      clear hF hX5
      obtain ⟨fk, fi, fo, ff, fc, fr, fd⟩ := f
      dsimp only at *
      by_cases h1 : fk = 6
      · subst h1
        by_cases h2 : fo = 0
        · subst h2
          by_cases h3 : fd.length = 8
          · have hR1 := HG1.out (by simp [greets, h3])
            subst hR1
            rw [h3] at FF hdn
            have HW := Lib.hid (word_8 xB fd xd w5 h3 HX5.out.2.1 hdn hdm)
            clear h3 HG1 HG2 HR
            go_wp2_with fail
            refine HW.out.mono ?_
            rintro e w' ⟨rfl, rfl⟩
            go_wp2_with fail
            go_ret2
            exact ⟨rfl, hb5⟩
          · have HE := Lib.hid (HG2.out (by simp [greets, h3]))
            have h3b : ((fd.length : Int) == 8) = false := by rw [beq_eq_false_iff_ne]; omega
            have h3c : ¬ (fd.length : Int) = 8 := by omega
            clear h3 HG1 HG2
            go_wp2_with fail
            go_roundw
            case rel => exact ⟨k + 1, by omega, by go_num, HE, hb5⟩
            case measure => simp [intOf]; omega
        · have HE := Lib.hid (HG2.out (by simp [greets, h2]))
          have h2b : ((fo : Int) == 0) = false := by rw [beq_eq_false_iff_ne]; omega
          have h2c : ¬ (fo : Int) = 0 := by omega
          clear h2 HG1 HG2
          go_wp2_with fail
          go_roundw
          case rel => exact ⟨k + 1, by omega, by go_num, HE, hb5⟩
          case measure => simp [intOf]; omega
      · have HE := Lib.hid (HG2.out (by simp [greets, h1]))
        have h1b : ((fk : Int) == 6) = false := by rw [beq_eq_false_iff_ne]; omega
        have h1c : ¬ (fk : Int) = 6 := by omega
        clear h1 HG1 HG2
        go_wp2_with fail
        go_roundw
        case rel => exact ⟨k + 1, by omega, by go_num, HE, hb5⟩
        case measure => simp [intOf]; omega
    · obtain rfl : k = m := by omega
      have hR1 := HR.out
      rw [helloF_none (by have := hno.out; rwa [List.take_of_length_le (by rw [HM.out]; exact Nat.le_refl _)] at this)] at hR1
      subst hR1
      go_wp2_with fail
      go_ret2
      exact ⟨rfl, hb⟩
end Go.Proofs.YtbcagdjfegobnaaGreat
/- Plain: a packet is unpacked as_v it was packed; the packets of who greets; how long they are. -/
namespace Go.Proofs.YtbcagdjfegobnaaGreat
open Go.RowKit
set_option linter.unusedVariables false

theorem unpack_pkt (key : Int) (h : HeadD) (n : Nat) (a top : Int) (ha : -1 ≤ a) (han : a < n) (hat : a ≤ top) (htn : top < n) (hd : n - a ≤ 1048577) (hn : n ≤ 2305843009213693952) (fs : List FrD) (ok : ∀ f ∈ fs, FrOk f) (h12 : fs.length ≤ 12) (K : Nat) (hK : cutK (n - a).toNat = K) :
    unpackF key K (n % 256 ^ K) (pktHd h K n).length top (pktB key h K n fs) = ((n : Int), fs, 0) := by
  have hK4 := cutK_le (n - a).toNat
  rw [hK] at hK4
  have hv : valB (beB K n) 0 = n % 256 ^ K := by
    have := valB_all K n
    rwa [List.take_of_length_le (by rw [beB_length]; exact Nat.le_refl _)] at this
  have hw : wholeN (top + 1) (256 ^ K : Nat) ((n % 256 ^ K : Nat) : Int) = n := by
    have := whole_back n a top K (by omega) (by omega) ha han hat htn hd hK
    rw [show ((n : Int)).toNat = n from rfl, hv] at this
    exact this
  obtain ⟨hp, ho⟩ := open_seal key n (pktHd h K n) (fs.flatMap fenc)
  have ht : (pktB key h K n fs).take (pktHd h K n).length = pktHd h K n := take_app _ _ _ rfl
  have hdp : (pktB key h K n fs).drop (pktHd h K n).length = sealB key n (pktHd h K n) (fs.flatMap fenc) := drop_app _ _ _ rfl
  have hl : (pktB key h K n fs).length = (pktHd h K n).length + ((fs.flatMap fenc).length + 8) := by unfold pktB; rw [List.length_append, sealB_length]
  unfold unpackF
  rw [if_neg (by omega), if_neg (by omega), hw, ht, hdp, ho, hp, if_neg (by simp), fall_back fs ok, if_pos h12, if_neg (by simp)]
theorem hdec_pkt (key : Int) (h : HeadD) (hh : PkHead h) (n K : Nat) (h1 : 1 ≤ K) (h4 : K ≤ 4) (fs : List FrD) : hdec (pktB key h K n fs) = (pktHead h K n, (pktHd h K n).length, 0) := hdec_back _ (hh.ok h1 h4) _

/-- The frame of who greets with a word. -/
def helloFr (x : Nat) : FrD := ⟨6, 0, 0, false, 0, [], beB 8 x⟩
theorem helloFr_ok (x : Nat) : FrOk (helloFr x) where
  kind := rfl
  len := by simp [helloFr, beB_length]
  many := by simp [helloFr]
  id := by simp [helloFr]
  noId := fun _ => rfl
  off := by simp [helloFr]
  noOff := fun _ => rfl
  code := by simp [helloFr]
  noCode := fun _ => rfl
  far := fun _ => by simp [helloFr, beB_length]
  noData := fun h => by simp [helloFr, pData] at h
  noFin := fun _ => rfl
  ack := by simp [helloFr]
  rngs := trivial
theorem helloF_hello (x : Nat) (h : x < 18446744073709551616) : helloF [helloFr x] = (x, true) := by
  have : greets (helloFr x) = true := by simp [greets, helloFr, beB_length]
  have hv : valB (beB 8 x) 0 = x := by have := valB_beB 8 x 0 (by omega); simpa using this
  simp [helloF, this]
  simp [helloFr, hv]
theorem helloFr_len (x : Nat) : (fenc (helloFr x)).length = 11 := by
  have e0 : (encB 0).length = 1 := by decide
  have e6 : (encB 6).length = 1 := by decide
  have e8 : (encB 8).length = 1 := by decide
  simp [fenc, helloFr, fkind, encRng, encIf, encC, encD, pId, pOff, pCode, pWord, pData, beB_length, e0, e6, e8]
/-- The first packet: of who greets (to 0) and of who answers. -/
def greetB (key : Int) (t f : Nat) (tok : List UInt8) (x : Nat) : List UInt8 := pktB key ⟨0, t, f, tok, 0, 0⟩ 1 0 [helloFr x]
theorem greet_head (t f : Nat) (tok : List UInt8) (ht : t ≤ 255) (hf : f ≤ 255) (hl : tok.length ≤ 120) : PkHead ⟨0, t, f, tok, 0, 0⟩ := ⟨.inl rfl, hl, ht, hf, fun h => by cases h⟩
theorem encB_len1 (n : Nat) (h : n ≤ 63) : (encB n).length = 1 := by rw [encB_length]; unfold sizeI; rw [if_neg (by omega), if_pos (by omega)]; rfl
theorem greetB_len (key : Int) (t f : Nat) (tok : List UInt8) (x : Nat) (h : tok.length ≤ 63) : (greetB key t f tok x).length = 24 + tok.length := by
  unfold greetB pktB pktHd henc hfront pktHead
  simp [sealB_length, beB_length, helloFr_len, encB_len1 _ h]
  omega
theorem greetB_dec (key : Int) (t f : Nat) (tok : List UInt8) (x : Nat) (ht : t ≤ 255) (hf : f ≤ 255) (hl : tok.length ≤ 120) : hdec (greetB key t f tok x) = (⟨0, t, f, tok, 0, 1⟩, (pktHd ⟨0, t, f, tok, 0, 0⟩ 1 0).length, 0) :=
  hdec_pkt key _ (greet_head t f tok ht hf hl) 0 1 (by decide) (by decide) _
theorem greetB_unpack (key : Int) (t f : Nat) (tok : List UInt8) (x : Nat) : unpackF key 1 0 (pktHd ⟨0, t, f, tok, 0, 0⟩ 1 0).length (-1) (greetB key t f tok x) = (0, [helloFr x], 0) :=
  unpack_pkt key _ 0 (-1) (-1) (by decide) (by decide) (by decide) (by decide) (by decide) (by decide) [helloFr x] (fun f hf => by rw [List.mem_singleton.1 hf]; exact helloFr_ok x) (by simp) 1 (by decide)
/-- A token that is told. -/
def retryB (t : Nat) (tok : List UInt8) : List UInt8 := henc ⟨1, t, 0, tok, 0, 0⟩
theorem retryB_len (t : Nat) (tok : List UInt8) (h : tok.length ≤ 63) : (retryB t tok).length = 4 + tok.length := by
  unfold retryB henc hfront
  simp [beB_length, encB_len1 _ h]
  omega
theorem retryB_ok (t : Nat) (tok : List UInt8) (ht : t ≤ 255) (hl : tok.length ≤ 120) : HeadOk ⟨1, t, 0, tok, 0, 0⟩ := ⟨by simp, hl, ht, by simp, fun _ => ⟨rfl, rfl⟩, fun h => absurd rfl h, by simp, fun h => by cases h⟩
theorem retryB_dec (t : Nat) (tok : List UInt8) (ht : t ≤ 255) (hl : tok.length ≤ 120) : hdec (retryB t tok) = (⟨1, t, 0, tok, 0, 0⟩, (retryB t tok).length, 0) := by
  have := hdec_back ⟨1, t, 0, tok, 0, 0⟩ (retryB_ok t tok ht hl) []
  rw [List.append_nil] at this
  exact this
end Go.Proofs.YtbcagdjfegobnaaGreat
/- The contract of head.Decode. -/
namespace Go.Proofs.YtbcagdjfegobnaaGreat
open Go.ChangeShapes Go.WideShapes Go.ChangeAt Go.RowKit
set_option linter.unusedVariables false

theorem andNot3 (c : Nat) (h : c < 256) : bits .andNot .u8 (c : Int) 3 = ((c / 4 * 4 : Nat) : Int) := by
  have key : ∀ c : Fin 256, (bits .andNot .u8 ((c.val : Nat) : Int) 3 == ((c.val / 4 * 4 : Nat) : Int)) = true := of_decide_eq_true (by kernel_rfl)
  simpa using key ⟨c, h⟩

theorem and3 (c : Nat) (h : c < 256) : bits .and .u8 (c : Int) 3 = ((c % 4 : Nat) : Int) := by
  have key : ∀ c : Fin 256, (bits .and .u8 ((c.val : Nat) : Int) 3 == ((c.val % 4 : Nat) : Int)) = true := of_decide_eq_true (by kernel_rfl)
  simpa using key ⟨c, h⟩

/-- What Decode answers where something is wrong. -/
def HBad (w : World) (E : Int) (e : Ending) (w' : World) : Prop := e = .returned (.tuple #[.agg #[.int .i64 0, .int .i64 0, .int .i64 0, .slice none 0 0, .int .i64 0, .int .i64 0], .int .i64 0, .int .i64 E]) ∧ Below w.heap.size w w'

set_option maxRecDepth 100000 in
theorem hDec_nil (A : Option Addr) (c : Nat) (w : World) :
    Calls Tryz.prog 31 #[.slice A 0 c] w (HBad w 4) := by
  have hC : Blk (w.alloc (.cells #[.int .i64 0, .int .i64 0, .int .i64 0, .slice none 0 0, .int .i64 0, .int .i64 0] 61)) w.heap.size 61 #[.int .i64 0, .int .i64 0, .int .i64 0, .slice none 0 0, .int .i64 0, .int .i64 0] := Blk.new _ _ _
  have hbz : Below w.heap.size w (w.alloc (.cells #[.int .i64 0, .int .i64 0, .int .i64 0, .slice none 0 0, .int .i64 0, .int .i64 0] 61)) := (Below.refl _ _).alloc (Nat.le_refl _) _
  have FC := hC.facts6
  go_enter Tryz.func31, Tryz.ntmps31
  go_wp2_with fail
  refine bodyPost_ret (v := .tuple #[.agg #[.int .i64 0, .int .i64 0, .int .i64 0, .slice none 0 0, .int .i64 0, .int .i64 0], .int .i64 0, .int .i64 4]) ?_ rfl ⟨rfl, ?_⟩
  · simp [results, Tryz.results31, go_sem, FC] <;> rfl
  · (repeat (first | with_reducible exact hbz | with_reducible refine Below.drew ?_ | (with_reducible refine Below.set4 ?_ ?side _ _ _ _; case side => (first | omega | (simp; omega) | (simp; done))) | (with_reducible refine Below.setCell ?_ ?side _; case side => (first | omega | (simp; omega) | (simp; done))) | (with_reducible refine Below.alloc ?_ ?side _; case side => (first | omega | (simp; omega) | (simp; done)))))

set_option maxRecDepth 100000 in
set_option maxHeartbeats 1000000 in
theorem hDec_none (A : Option Addr) (bs : List UInt8) (n c : Nat) (w : World) (hn : bs.length = n) (h : RdB w A bs) (hc : n ≤ c) (hm : c ≤ 9223372036854775807) (h0 : 1 ≤ n) (b : Nat) (hb : (bs.getD 0 0).toNat = b) (h1 : b / 4 ≠ 16) (h2 : b / 4 ≠ 48) (h3 : b ≠ 240) :
    Calls Tryz.prog 31 #[.slice A n c] w (HBad w 2) := by
  obtain ⟨B, off, rfl, hcell⟩ := h.cell (by omega)
  have hc0 := hcell 0 (by omega)
  rw [hb] at hc0
  have hb256 : b < 256 := by have := (bs.getD 0 0).toNat_lt; omega
  simp only [Nat.add_zero] at hc0
  obtain ⟨x, hx⟩ : ∃ x, bits .andNot .u8 (b : Int) 3 = x := ⟨_, rfl⟩
  have hxv := andNot3 b hb256
  rw [hx] at hxv
  have e1 : (x == 64) = false := by rw [hxv]; simp; omega
  have e2 : (x == 192) = false := by rw [hxv]; simp; omega
  have e3 : ((b : Int) == 240) = false := by simp; omega
  have hg := World.block_lt_of_cell? w _ hc0
  clear hxv hcell h hn hb
  have hC : Blk ((w.alloc (.cells #[.int .i64 0, .int .i64 0, .int .i64 0, .slice none 0 0, .int .i64 0, .int .i64 0] 61)).alloc (.cells #[.int .i64 0, .int .i64 0, .int .i64 0, .slice none 0 0, .int .i64 0, .int .i64 0] 61)) w.heap.size 61 #[.int .i64 0, .int .i64 0, .int .i64 0, .slice none 0 0, .int .i64 0, .int .i64 0] := (Blk.new _ _ _).alloc _
  have hbz : Below w.heap.size w ((w.alloc (.cells #[.int .i64 0, .int .i64 0, .int .i64 0, .slice none 0 0, .int .i64 0, .int .i64 0] 61)).alloc (.cells #[.int .i64 0, .int .i64 0, .int .i64 0, .slice none 0 0, .int .i64 0, .int .i64 0] 61)) := ((Below.refl _ _).alloc (Nat.le_refl _) _).alloc (by simp) _
  have FC := hC.facts6
  go_enter Tryz.func31, Tryz.ntmps31
  go_wp2_with fail
  refine bodyPost_ret (v := .tuple #[.agg #[.int .i64 0, .int .i64 0, .int .i64 0, .slice none 0 0, .int .i64 0, .int .i64 0], .int .i64 0, .int .i64 2]) ?_ rfl ⟨rfl, ?_⟩
  · simp [results, Tryz.results31, go_sem, FC] <;> rfl
  · (repeat (first | with_reducible exact hbz | with_reducible refine Below.drew ?_ | (with_reducible refine Below.set4 ?_ ?side _ _ _ _; case side => (first | omega | (simp; omega) | (simp; done))) | (with_reducible refine Below.setCell ?_ ?side _; case side => (first | omega | (simp; omega) | (simp; done))) | (with_reducible refine Below.alloc ?_ ?side _; case side => (first | omega | (simp; omega) | (simp; done)))))
/-- What Decode answers where a head was read. -/
def HGood (w : World) (H : HeadD) (u : Nat) (e : Ending) (w' : World) : Prop := ∃ T d, e = .returned (.tuple #[.agg (hcells H T d), .int .i64 u, .int .i64 0]) ∧ RdB w' T H.tok ∧ H.tok.length ≤ d ∧ d ≤ 9223372036854775807 ∧ Below w.heap.size w w'
def HTail (bs : List UInt8) (n k tt f : Nat) (t : List UInt8) (u s : Nat) (w : World) (e : Ending) (w' : World) : Prop :=
  (n < u + s ∧ HBad w 4 e w') ∨ (u + s ≤ n ∧ HGood w ⟨k, tt, f, t, valB ((bs.drop u).take s) 0, s⟩ (u + s) e w')

theorem rd_of_own8 {w : World} {base : Nat} {e : TypeId} {A : Option Addr} {l c : Nat} {bs : List UInt8} (h : w.ownsRow base e 1 (.slice A l c) l (u8s bs)) (hl : bs.length = l) : RdB w A bs := by
  subst hl; exact RdB.of_own h
theorem own_cap8 {w : World} {base : Nat} {e : TypeId} {A : Option Addr} {l c : Nat} {bs : List Value} (h : w.ownsRow base e 1 (.slice A l c) l bs) : l ≤ c ∧ c ≤ 9223372036854775807 := by
  rcases h.2 with ⟨h1, h2⟩ | ⟨g, cap, cur, hv, _, _, h3, h4, _⟩
  · injection h1 with _ h1 h3; omega
  · injection hv with _ h5 h6; unfold maxLen at h4; omega

set_option maxRecDepth 100000 in
set_option maxHeartbeats 2000000 in
theorem hDec_short (A : Option Addr) (bs : List UInt8) (n c : Nat) (w : World) (hn : bs.length = n) (h : RdB w A bs) (hc : n ≤ c) (hm : c ≤ 9223372036854775807) (h2n : 2 ≤ n) (b s : Nat) (hb : (bs.getD 0 0).toNat = b) (h1 : b / 4 = 16) (hs : b % 4 + 1 = s) :
    Calls Tryz.prog 31 #[.slice A n c] w (HTail bs n 2 (bs.getD 1 0).toNat 0 [] 2 s w) := by
  obtain ⟨B, off, rfl, hcell⟩ := h.cell (by omega)
  have hc0 := hcell 0 (by omega)
  have hc1 := hcell 1 (by omega)
  rw [hb] at hc0
  have hb256 : b < 256 := by have := (bs.getD 0 0).toNat_lt; omega
  obtain ⟨tt, hto⟩ : ∃ tt, (bs.getD 1 0).toNat = tt := ⟨_, rfl⟩
  have hto256 : tt < 256 := by have := (bs.getD 1 0).toNat_lt; omega
  rw [hto] at hc1 ⊢
  simp only [Nat.add_zero] at hc0
  obtain ⟨x, hx⟩ : ∃ x, bits .andNot .u8 (b : Int) 3 = x := ⟨_, rfl⟩
  have hxv := andNot3 b hb256
  rw [hx] at hxv
  have e1 : (x == 64) = true := by rw [hxv]; simp; try omega
  obtain ⟨y, hy⟩ : ∃ y, bits .and .u8 (b : Int) 3 = y := ⟨_, rfl⟩
  have hyv := and3 b hb256
  rw [hy] at hyv
  have hy0 : 0 ≤ y := by omega
  have hy3 : y ≤ 3 := by omega
  have e2 : y + 1 = (s : Int) := by omega
  have hs1 : 1 ≤ s := by omega
  have hs4 : s ≤ 4 := by omega
  have hg := World.block_lt_of_cell? w _ hc0
  have HR := Lib.hid h
  have HN := Lib.hid hn
  clear hxv hyv hcell h hn hb hto h1
  go_enter Tryz.func31, Tryz.ntmps31
  go_upto_region 12 with (fail)
  refine wp_world (fun w' => Blk w' w.heap.size 61 #[.int .i64 0, .int .i64 0, .int .i64 0, .slice none 0 0, .int .i64 0, .int .i64 0] ∧ Blk w' (w.heap.size + 1) 61 #[.int .i64 2, .int .i64 0, .int .i64 0, .slice none 0 0, .int .i64 0, .int .i64 s] ∧ w'.cell? ⟨B, off + 1, none⟩ = some (.int .u8 tt) ∧ Below w.heap.size w w')
    ⟨(Blk.new _ _ _).alloc _, (Blk.new1 _ _ _ _).as (by rw [← e2]), by go_simp, ((Below.refl _ _).alloc (Nat.le_refl _) _).alloc (by simp) _⟩ ?_
  clear hc0 hc1 hx hy e1 e2
  rintro w1 ⟨hB2, hB5, hc1, hb1⟩
  have hFH := hB5.facts6
  have hz1 := hb1.size
  go_upto_region 30 with (fail)
  refine wp_world (fun w' => Blk w' w.heap.size 61 #[.int .i64 0, .int .i64 0, .int .i64 0, .slice none 0 0, .int .i64 0, .int .i64 0] ∧ Blk w' (w.heap.size + 1) 61 #[.int .i64 2, .int .i64 tt, .int .i64 0, .slice none 0 0, .int .i64 0, .int .i64 s] ∧ Below w.heap.size w w')
    ⟨by (apply Blk.as; (case h => (repeat (first | with_reducible exact hB2 | with_reducible apply Blk.drew | with_reducible apply Blk.set4 | with_reducible apply Blk.set_ | (with_reducible apply Blk.far4 (hne := ?side); case side => (first | omega | (simp; omega) | (simp; done))) | (with_reducible apply Blk.far (hp := ?side); case side => (first | omega | (simp; omega) | (simp; done))) | with_reducible apply Blk.alloc))); (case e => (first | with_reducible rfl | (simp; done) | rfl))), by (apply Blk.as; (case h => (repeat (first | with_reducible exact hB5 | with_reducible apply Blk.drew | with_reducible apply Blk.set4 | with_reducible apply Blk.set_ | (with_reducible apply Blk.far4 (hne := ?side); case side => (first | omega | (simp; omega) | (simp; done))) | (with_reducible apply Blk.far (hp := ?side); case side => (first | omega | (simp; omega) | (simp; done))) | with_reducible apply Blk.alloc))); (case e => (first | with_reducible rfl | (simp; done) | rfl))), by (repeat (first | with_reducible exact hb1 | with_reducible refine Below.drew ?_ | (with_reducible refine Below.set4 ?_ ?side _ _ _ _; case side => (first | omega | (simp; omega) | (simp; done))) | (with_reducible refine Below.setCell ?_ ?side _; case side => (first | omega | (simp; omega) | (simp; done))) | (with_reducible refine Below.alloc ?_ ?side _; case side => (first | omega | (simp; omega) | (simp; done)))))⟩ ?_
  clear hFH hB2 hB5 hb1 hc1
  rintro w2 ⟨hB2, hB5, hbz⟩
  have HT : Hid (w2.ownsRow (w.heap.size + 2) 5 1 (.slice none 0 0) 0 (u8s [])) := OwnB.nil w2 _ _
  have HG2 : Hid (w.heap.size + 2 ≤ w2.heap.size) := hB5.lt
  have HB2 := Lib.hid hB2
  have HB5 := Lib.hid hB5
  have HBZ := Lib.hid hbz
  clear hB2 hB5 hbz hz1
  have hFC := HB2.out.facts6
  have hFH := HB5.out.facts6
  have hu0 : 2 + s ≤ 9223372036854775807 := by omega
  by_cases hsh : n < 2 + s
  · go_wp2_with fail
    refine bodyPost_ret (v := .tuple #[.agg #[.int .i64 0, .int .i64 0, .int .i64 0, .slice none 0 0, .int .i64 0, .int .i64 0], .int .i64 0, .int .i64 4]) ?_ rfl ?_
    · simp [results, Tryz.results31, go_sem, hFC] <;> rfl
    · refine Or.inl ⟨hsh, rfl, ?_⟩
      (repeat (first | with_reducible exact HBZ.out | with_reducible refine Below.drew ?_ | (with_reducible refine Below.set4 ?_ ?side _ _ _ _; case side => (first | omega | (simp; omega) | (simp; done))) | (with_reducible refine Below.setCell ?_ ?side _; case side => (first | omega | (simp; omega) | (simp; done))) | (with_reducible refine Below.alloc ?_ ?side _; case side => (first | omega | (simp; omega) | (simp; done)))))
  · obtain ⟨ms, hms⟩ : ∃ ms, (bs.drop 2).take s = ms := ⟨_, rfl⟩
    have hmsl : ms.length = s := by rw [← hms, List.length_take, List.length_drop, HN.out]; omega
    have hcell : ∀ (w' : World), Below w.heap.size w w' → ∀ k, k < s → w'.cell? ⟨B, off + 2 + k, none⟩ = some (.int .u8 ((ms.getD k 0).toNat : Int)) := by
      intro w' hw' k hk
      obtain ⟨B', off', hA', hc'⟩ := (HR.out.below hw').cell (by have := HN.out; omega)
      injection hA' with hA'
      injection hA' with h1 h2
      subst h1 h2
      have := hc' (2 + k) (by have := HN.out; omega)
      rw [← Nat.add_assoc] at this
      rw [this, ← hms]
      simp [List.getD, hk, List.getElem?_drop]
    have HMS := Lib.hid hms
    have HML := Lib.hid hmsl
    have HCELL := Lib.hid hcell
    have hz2 : w.heap.size ≤ w2.heap.size := HBZ.out.size
    have hnu : 2 + s - 2 = s := by omega
    have hcu : ((2 + s : Nat) : Int) ≤ (c : Int) := by omega
    clear hms hmsl hcell
    have HFC := Lib.hid hFC
    clear hFC
    have hcu1 : (if c = 2 then (some (⟨B, off, none⟩ : Addr)) else some ⟨B, off + 2, none⟩) = (if c = 2 then some ⟨B, off, none⟩ else some ⟨B, off + 2, none⟩) := rfl
    go_wp2_with fail
    clear hFH
    go_loopw [118] (fun i wr => ∃ k : Nat, k ≤ s ∧ i = .int .i64 k ∧ Blk wr (w.heap.size + 1) 61 #[.int .i64 2, .int .i64 tt, .int .i64 0, .slice none 0 0, .int .i64 (valB (ms.take k) 0 : Nat), .int .i64 s] ∧ Blk wr w.heap.size 61 #[.int .i64 0, .int .i64 0, .int .i64 0, .slice none 0 0, .int .i64 0, .int .i64 0] ∧ Below w.heap.size w wr ∧ wr.ownsRow (w.heap.size + 2) 5 1 (.slice none 0 0) 0 (u8s []) ∧ w.heap.size + 2 ≤ wr.heap.size) (fun i _ => s - (intOf i).toNat)
    case atStart => exact ⟨0, Nat.zero_le _, rfl, HB5.out, HB2.out, HBZ.out, HT.out, HG2.out⟩
    case round =>
      obtain ⟨k, hk, rfl, hB5, hB2, hbz, hT, hg2⟩ := hrel
      have HTT := Lib.hid hT
      clear hT
      have HB5 := Lib.hid hB5
      have HB2 := Lib.hid hB2
      have hFH := hB5.facts6
      clear hB5 hB2
      by_cases hlt : k < s
      · have hck := HCELL.out wr hbz k hlt
        have hv : Hid (valB (ms.take (k + 1)) 0 = valB (ms.take k) 0 * 256 + (ms.getD k 0).toNat) := by
          show _ = _
          rw [List.take_succ_eq_append_getElem (by rw [HML.out]; exact hlt), valB_snoc]; simp [List.getD, HML.out, hlt]
        have hvl : valB (ms.take k) 0 < 18014398509481984 := by
          have h1 := valB_bound (ms.take k)
          have h2 : 256 ^ (ms.take k).length ≤ 256 ^ 4 := Nat.pow_le_pow_right (by decide) (by rw [List.length_take]; omega)
          omega
        have hv0 : valB (ms.take k) 0 * 256 < 4611686018427387904 := by omega
        generalize hbk : ms.getD k 0 = bk at *
        generalize hvk : valB (ms.take k) 0 = vk at *
        obtain ⟨vn, hvn⟩ : ∃ vn, valB (ms.take (k + 1)) 0 = vn := ⟨_, rfl⟩
        have h9 : (bk.toNat : Int) < 256 := by have := bk.toNat_lt; omega
        have hor := or_byte vk bk.toNat hvl (by omega)
        have hvn' : Hid (vk * 256 + bk.toNat = vn) := by show _ = _; rw [← hvn]; exact hv.out.symm
        have HVN := Lib.hid hvn
        rw [hvn'.out] at hor
        clear hbk hvk hvn hv
        go_wp2_with fail
        go_roundw
        case rel => exact ⟨k + 1, by omega, by go_num, by rw [HVN.out]; (apply Blk.as; (case h => (repeat (first | with_reducible exact HB5.out | with_reducible apply Blk.drew | with_reducible apply Blk.set4 | with_reducible apply Blk.set_ | (with_reducible apply Blk.far4 (hne := ?side); case side => (first | omega | (simp; omega) | (simp; done))) | (with_reducible apply Blk.far (hp := ?side); case side => (first | omega | (simp; omega) | (simp; done))) | with_reducible apply Blk.alloc))); (case e => (first | with_reducible rfl | (simp; done) | rfl))), by (apply Blk.as; (case h => (repeat (first | with_reducible exact HB2.out | with_reducible apply Blk.drew | with_reducible apply Blk.set4 | with_reducible apply Blk.set_ | (with_reducible apply Blk.far4 (hne := ?side); case side => (first | omega | (simp; omega) | (simp; done))) | (with_reducible apply Blk.far (hp := ?side); case side => (first | omega | (simp; omega) | (simp; done))) | with_reducible apply Blk.alloc))); (case e => (first | with_reducible rfl | (simp; done) | rfl))), by (repeat (first | with_reducible exact hbz | with_reducible refine Below.drew ?_ | (with_reducible refine Below.set4 ?_ ?side _ _ _ _; case side => (first | omega | (simp; omega) | (simp; done))) | (with_reducible refine Below.setCell ?_ ?side _; case side => (first | omega | (simp; omega) | (simp; done))) | (with_reducible refine Below.alloc ?_ ?side _; case side => (first | omega | (simp; omega) | (simp; done))))), by (repeat (first | with_reducible exact HTT.out | with_reducible refine World.ownsRow.drew ?_ | (with_reducible refine ownsRow_setCell_below ?_ ?side _; case side => (first | omega | (simp; omega) | (simp; done))) | with_reducible refine World.ownsRow.alloc ?_ _)), by simp; omega⟩
        case measure => simp [intOf]; omega
      · obtain rfl : k = s := by omega
        have hfin : valB (ms.take k) 0 = valB ((bs.drop 2).take k) 0 := by rw [HMS.out, List.take_of_length_le (by rw [HML.out]; exact Nat.le_refl _)]
        have HFIN := Lib.hid hfin
        have hFC := HB2.out.facts6
        have hvk : valB (ms.take k) 0 < 4611686018427387904 := by
          have h1 := valB_bound (ms.take k)
          have h2 : 256 ^ (ms.take k).length ≤ 256 ^ 4 := Nat.pow_le_pow_right (by decide) (by rw [List.length_take]; omega)
          omega
        generalize valB (ms.take k) 0 = vk at *
        clear hfin hlt
        go_wp2_with fail
        go_region
        all_goals
          go_wp2_with fail
          refine bodyPost_ret (v := .tuple #[.agg #[.int .i64 2, .int .i64 tt, .int .i64 0, .slice none 0 0, .int .i64 vk, .int .i64 k], .int .i64 ((2 : Int) + k), .int .i64 0]) ?_ rfl ?_
          · simp [results, Tryz.results31, go_sem, hFC] <;> rfl
          · refine Or.inr ⟨by omega, none, 0, ?_, ?_, ?_, ?_, ?_⟩
            · simp [hcells, List.length_nil, ← HFIN.out]
            · refine rd_of_own8 (base := w.heap.size + 2) (e := 5) (l := 0) (c := 0) ?_ (by simp [List.length_nil])
              (repeat (first | with_reducible exact HTT.out | with_reducible refine World.ownsRow.drew ?_ | (with_reducible refine ownsRow_setCell_below ?_ ?side _; case side => (first | omega | (simp; omega) | (simp; done))) | with_reducible refine World.ownsRow.alloc ?_ _))
            · have := own_cap8 HTT.out; simp only [List.length_nil]; exact this.1
            · exact (own_cap8 HTT.out).2
            · (repeat (first | with_reducible exact hbz | with_reducible refine Below.drew ?_ | (with_reducible refine Below.set4 ?_ ?side _ _ _ _; case side => (first | omega | (simp; omega) | (simp; done))) | (with_reducible refine Below.setCell ?_ ?side _; case side => (first | omega | (simp; omega) | (simp; done))) | (with_reducible refine Below.alloc ?_ ?side _; case side => (first | omega | (simp; omega) | (simp; done)))))

set_option maxRecDepth 100000 in
set_option maxHeartbeats 1000000 in
theorem hDec_short1 (A : Option Addr) (bs : List UInt8) (c : Nat) (w : World) (hn : bs.length = 1) (h : RdB w A bs) (hc : 1 ≤ c) (hm : c ≤ 9223372036854775807) (b : Nat) (hb : (bs.getD 0 0).toNat = b) (h1 : b / 4 = 16) :
    Calls Tryz.prog 31 #[.slice A 1 c] w (HBad w 4) := by
  obtain ⟨B, off, rfl, hcell⟩ := h.cell (by omega)
  have hc0 := hcell 0 (by omega)
  rw [hb] at hc0
  have hb256 : b < 256 := by have := (bs.getD 0 0).toNat_lt; omega
  simp only [Nat.add_zero] at hc0
  obtain ⟨x, hx⟩ : ∃ x, bits .andNot .u8 (b : Int) 3 = x := ⟨_, rfl⟩
  have hxv := andNot3 b hb256
  rw [hx] at hxv
  have e1 : (x == 64) = true := by rw [hxv]; simp; try omega
  obtain ⟨y, hy⟩ : ∃ y, bits .and .u8 (b : Int) 3 = y := ⟨_, rfl⟩
  have hyv := and3 b hb256
  rw [hy] at hyv
  have hy0 : 0 ≤ y := by omega
  have hy3 : y ≤ 3 := by omega
  have hg := World.block_lt_of_cell? w _ hc0
  clear hxv hyv hcell h hn hb h1
  go_enter Tryz.func31, Tryz.ntmps31
  go_upto_region 12 with (fail)
  refine wp_world (fun w' => Blk w' w.heap.size 61 #[.int .i64 0, .int .i64 0, .int .i64 0, .slice none 0 0, .int .i64 0, .int .i64 0] ∧ Blk w' (w.heap.size + 1) 61 #[.int .i64 2, .int .i64 0, .int .i64 0, .slice none 0 0, .int .i64 0, .int .i64 (y + 1)] ∧ Below w.heap.size w w')
    ⟨(Blk.new _ _ _).alloc _, Blk.new1 _ _ _ _, ((Below.refl _ _).alloc (Nat.le_refl _) _).alloc (by simp) _⟩ ?_
  clear hc0 hx hy e1
  rintro w1 ⟨hB2, hB5, hb1⟩
  have hFH := hB5.facts6
  have hFC := hB2.facts6
  go_wp2_with fail
  refine bodyPost_ret (v := .tuple #[.agg #[.int .i64 0, .int .i64 0, .int .i64 0, .slice none 0 0, .int .i64 0, .int .i64 0], .int .i64 0, .int .i64 4]) ?_ rfl ⟨rfl, ?_⟩
  · simp [results, Tryz.results31, go_sem, hFC] <;> rfl
  · (repeat (first | with_reducible exact hb1 | with_reducible refine Below.drew ?_ | (with_reducible refine Below.set4 ?_ ?side _ _ _ _; case side => (first | omega | (simp; omega) | (simp; done))) | (with_reducible refine Below.setCell ?_ ?side _; case side => (first | omega | (simp; omega) | (simp; done))) | (with_reducible refine Below.alloc ?_ ?side _; case side => (first | omega | (simp; omega) | (simp; done)))))

theorem RdB.mid {w : World} {B off : Nat} {bs : List UInt8} (h : RdB w (some ⟨B, off, none⟩) bs) (u m c : Nat) (hu : u + m ≤ bs.length) (hc : bs.length ≤ c) : RdB w (if c = u then some ⟨B, off, none⟩ else some ⟨B, off + u, none⟩) ((bs.drop u).take m) := by
  have h1 := (h.cut (k := u) (cap := c) (by omega) hc).front (k := m) (by simp; omega)
  simpa [add_none] using h1

end Go.Proofs.YtbcagdjfegobnaaGreat
/- The contract of head.Decode, heads that are not short. -/
namespace Go.Proofs.YtbcagdjfegobnaaGreat
open Go.ChangeShapes Go.WideShapes Go.ChangeAt Go.RowKit
set_option linter.unusedVariables false

def HLong (bs : List UInt8) (n k tt ff s : Nat) (r : Int × Int × Int) (w : World) (e : Ending) (w' : World) : Prop :=
  (r.2.2 ≠ 0 ∧ HBad w 4 e w') ∨ (r.2.2 = 0 ∧ 120 < r.1.toNat ∧ HBad w 1 e w') ∨ (r.2.2 = 0 ∧ ¬ 120 < r.1.toNat ∧ n < 3 + r.2.1.toNat + r.1.toNat ∧ HBad w 4 e w') ∨
  (r.2.2 = 0 ∧ ¬ 120 < r.1.toNat ∧ ¬ n < 3 + r.2.1.toNat + r.1.toNat ∧ HTail bs n k tt ff ((bs.drop (3 + r.2.1.toNat)).take r.1.toNat) (3 + r.2.1.toNat + r.1.toNat) s w e w')

set_option maxRecDepth 100000 in
set_option maxHeartbeats 4000000 in
theorem hDec_long0_few (A : Option Addr) (bs : List UInt8) (n c : Nat) (w : World) (hn : bs.length = n) (h : RdB w A bs) (hc : n ≤ c) (hm : c ≤ 9223372036854775807) (h1n : 1 ≤ n) (h2n : n < 3) (b s : Nat) (hb : (bs.getD 0 0).toNat = b) (h1 : b / 4 = 48) (hs : b % 4 + 1 = s) :
    Calls Tryz.prog 31 #[.slice A n c] w (HBad w 4) := by
  obtain ⟨B, off, rfl, hcell⟩ := h.cell (by omega)
  have hc0 := hcell 0 (by omega)
  rw [hb] at hc0
  have hb256 : b < 256 := by have := (bs.getD 0 0).toNat_lt; omega
  simp only [Nat.add_zero] at hc0
  obtain ⟨x, hx⟩ : ∃ x, bits .andNot .u8 (b : Int) 3 = x := ⟨_, rfl⟩
  have hxv := andNot3 b hb256
  rw [hx] at hxv
  have e0 : (x == 64) = false := by rw [hxv]; simp; try omega
  have e1 : (x == 192) = true := by rw [hxv]; simp; try omega
  obtain ⟨y, hy⟩ : ∃ y, bits .and .u8 (b : Int) 3 = y := ⟨_, rfl⟩
  have hyv := and3 b hb256
  rw [hy] at hyv
  have hy0 : 0 ≤ y := by omega
  have hy3 : y ≤ 3 := by omega
  have e2 : y + 1 = (s : Int) := by omega
  have hs4 : s ≤ 4 := by omega
  have hs1 : 1 ≤ s := by omega
  clear hxv hyv hs h1
  have hg := World.block_lt_of_cell? w _ hc0
  have HR := Lib.hid h
  have HN := Lib.hid hn
  clear hcell h hn hb
  go_enter Tryz.func31, Tryz.ntmps31
  go_upto_region 12 with (fail)
  refine wp_world (fun w' => Blk w' w.heap.size 61 #[.int .i64 0, .int .i64 0, .int .i64 0, .slice none 0 0, .int .i64 0, .int .i64 0] ∧ Blk w' (w.heap.size + 1) 61 #[.int .i64 0, .int .i64 0, .int .i64 0, .slice none 0 0, .int .i64 0, .int .i64 s] ∧ Below w.heap.size w w')
    ⟨(Blk.new _ _ _).alloc _, (Blk.new1 _ _ _ _).as (by rw [← e2]), ((Below.refl _ _).alloc (Nat.le_refl _) _).alloc (by simp) _⟩ ?_
  clear hc0 hx hy e0 e1 e2
  rintro w1 ⟨hB2, hB5, hb1⟩
  have hFH := hB5.facts6
  have hFC := hB2.facts6
  have hz1 := hb1.size
  go_wp2_with fail
  refine bodyPost_ret (v := .tuple #[.agg #[.int .i64 0, .int .i64 0, .int .i64 0, .slice none 0 0, .int .i64 0, .int .i64 0], .int .i64 0, .int .i64 4]) ?_ rfl ⟨rfl, ?_⟩
  · simp [results, Tryz.results31, go_sem, hFC] <;> rfl
  · (repeat (first | with_reducible exact hb1 | with_reducible refine Below.drew ?_ | (with_reducible refine Below.set4 ?_ ?side _ _ _ _; case side => (first | omega | (simp; omega) | (simp; done))) | (with_reducible refine Below.setCell ?_ ?side _; case side => (first | omega | (simp; omega) | (simp; done))) | (with_reducible refine Below.alloc ?_ ?side _; case side => (first | omega | (simp; omega) | (simp; done)))))

set_option maxRecDepth 100000 in
set_option maxHeartbeats 4000000 in
theorem hDec_long1_few (A : Option Addr) (bs : List UInt8) (n c : Nat) (w : World) (hn : bs.length = n) (h : RdB w A bs) (hc : n ≤ c) (hm : c ≤ 9223372036854775807) (h1n : 1 ≤ n) (h2n : n < 3) (b s : Nat) (hb : (bs.getD 0 0).toNat = b) (h1 : b = 240) (hs : s = 0) :
    Calls Tryz.prog 31 #[.slice A n c] w (HBad w 4) := by
  obtain ⟨B, off, rfl, hcell⟩ := h.cell (by omega)
  have hc0 := hcell 0 (by omega)
  rw [hb] at hc0
  have hb256 : b < 256 := by have := (bs.getD 0 0).toNat_lt; omega
  simp only [Nat.add_zero] at hc0
  have HS0 := Lib.hid hs
  have hs4 : s ≤ 4 := by omega
  clear hs
  have e2 : ((240 : Nat) : Int) = 240 := rfl
  subst h1
  rw [e2] at hc0
  have e3 : bits .andNot .u8 240 3 = 240 := by kernel_rfl
  have hg := World.block_lt_of_cell? w _ hc0
  have HR := Lib.hid h
  have HN := Lib.hid hn
  clear hcell h hn hb
  go_enter Tryz.func31, Tryz.ntmps31
  go_upto_region 12 with (fail)
  refine wp_world (fun w' => Blk w' w.heap.size 61 #[.int .i64 0, .int .i64 0, .int .i64 0, .slice none 0 0, .int .i64 0, .int .i64 0] ∧ Blk w' (w.heap.size + 1) 61 #[.int .i64 1, .int .i64 0, .int .i64 0, .slice none 0 0, .int .i64 0, .int .i64 s] ∧ Below w.heap.size w w')
    ⟨(Blk.new _ _ _).alloc _, (Blk.new1 _ _ _ _).as (by rw [HS0.out]; rfl), ((Below.refl _ _).alloc (Nat.le_refl _) _).alloc (by simp) _⟩ ?_
  clear hc0 e2 e3
  rintro w1 ⟨hB2, hB5, hb1⟩
  have hFH := hB5.facts6
  have hFC := hB2.facts6
  have hz1 := hb1.size
  go_wp2_with fail
  refine bodyPost_ret (v := .tuple #[.agg #[.int .i64 0, .int .i64 0, .int .i64 0, .slice none 0 0, .int .i64 0, .int .i64 0], .int .i64 0, .int .i64 4]) ?_ rfl ⟨rfl, ?_⟩
  · simp [results, Tryz.results31, go_sem, hFC] <;> rfl
  · (repeat (first | with_reducible exact hb1 | with_reducible refine Below.drew ?_ | (with_reducible refine Below.set4 ?_ ?side _ _ _ _; case side => (first | omega | (simp; omega) | (simp; done))) | (with_reducible refine Below.setCell ?_ ?side _; case side => (first | omega | (simp; omega) | (simp; done))) | (with_reducible refine Below.alloc ?_ ?side _; case side => (first | omega | (simp; omega) | (simp; done)))))

set_option maxRecDepth 100000 in
set_option maxHeartbeats 4000000 in
theorem hDec_long0_three (A : Option Addr) (bs : List UInt8) (n c : Nat) (w : World) (hn : bs.length = n) (h : RdB w A bs) (hc : n ≤ c) (hm : c ≤ 9223372036854775807) (h3n : n = 3) (h3c : c = 3) (b s : Nat) (hb : (bs.getD 0 0).toNat = b) (h1 : b / 4 = 48) (hs : b % 4 + 1 = s) :
    Calls Tryz.prog 31 #[.slice A n c] w (HBad w 4) := by
  obtain ⟨B, off, rfl, hcell⟩ := h.cell (by omega)
  have hc0 := hcell 0 (by omega)
  have hc1 := hcell 1 (by omega)
  have hc2 := hcell 2 (by omega)
  obtain ⟨tt, htt⟩ : ∃ tt, (bs.getD 1 0).toNat = tt := ⟨_, rfl⟩
  have ht256 : tt < 256 := by have := (bs.getD 1 0).toNat_lt; omega
  obtain ⟨ff, hff⟩ : ∃ ff, (bs.getD 2 0).toNat = ff := ⟨_, rfl⟩
  have hf256 : ff < 256 := by have := (bs.getD 2 0).toNat_lt; omega
  rw [htt] at hc1
  rw [hff] at hc2
  rw [hb] at hc0
  have hb256 : b < 256 := by have := (bs.getD 0 0).toNat_lt; omega
  simp only [Nat.add_zero] at hc0
  obtain ⟨x, hx⟩ : ∃ x, bits .andNot .u8 (b : Int) 3 = x := ⟨_, rfl⟩
  have hxv := andNot3 b hb256
  rw [hx] at hxv
  have e0 : (x == 64) = false := by rw [hxv]; simp; try omega
  have e1 : (x == 192) = true := by rw [hxv]; simp; try omega
  obtain ⟨y, hy⟩ : ∃ y, bits .and .u8 (b : Int) 3 = y := ⟨_, rfl⟩
  have hyv := and3 b hb256
  rw [hy] at hyv
  have hy0 : 0 ≤ y := by omega
  have hy3 : y ≤ 3 := by omega
  have e2 : y + 1 = (s : Int) := by omega
  have hs4 : s ≤ 4 := by omega
  have hs1 : 1 ≤ s := by omega
  clear hxv hyv hs h1
  have hg := World.block_lt_of_cell? w _ hc0
  have HR := Lib.hid h
  have HN := Lib.hid hn
  clear hcell h hn hb
  go_enter Tryz.func31, Tryz.ntmps31
  go_upto_region 12 with (fail)
  refine wp_world (fun w' => Blk w' w.heap.size 61 #[.int .i64 0, .int .i64 0, .int .i64 0, .slice none 0 0, .int .i64 0, .int .i64 0] ∧ Blk w' (w.heap.size + 1) 61 #[.int .i64 0, .int .i64 0, .int .i64 0, .slice none 0 0, .int .i64 0, .int .i64 s] ∧ w'.cell? ⟨B, off + 1, none⟩ = some (.int .u8 tt) ∧ w'.cell? ⟨B, off + 2, none⟩ = some (.int .u8 ff) ∧ Below w.heap.size w w')
    ⟨(Blk.new _ _ _).alloc _, (Blk.new1 _ _ _ _).as (by rw [← e2]), by go_simp, by go_simp, ((Below.refl _ _).alloc (Nat.le_refl _) _).alloc (by simp) _⟩ ?_
  clear hc0 hx hy e0 e1 e2 hc1 hc2
  rintro w1 ⟨hB2, hB5, hc1, hc2, hb1⟩
  have hFH := hB5.facts6
  have hFC := hB2.facts6
  have hz1 := hb1.size
  subst h3n
  subst h3c
  go_wp2_with fail
  refine (dec_nil _ _ _).mono ?_
  rintro e w2 ⟨rfl, rfl⟩
  have hB2' : Blk ((w1.setCell ⟨w.heap.size + 1, 1, none⟩ (.int .i64 tt)).setCell ⟨w.heap.size + 1, 2, none⟩ (.int .i64 ff)) w.heap.size 61 #[.int .i64 0, .int .i64 0, .int .i64 0, .slice none 0 0, .int .i64 0, .int .i64 0] := by (apply Blk.as; (case h => (repeat (first | with_reducible exact hB2 | with_reducible apply Blk.drew | with_reducible apply Blk.set4 | with_reducible apply Blk.set_ | (with_reducible apply Blk.far4 (hne := ?side); case side => (first | omega | (simp; omega) | (simp; done))) | (with_reducible apply Blk.far (hp := ?side); case side => (first | omega | (simp; omega) | (simp; done))) | with_reducible apply Blk.alloc))); (case e => (first | with_reducible rfl | (simp; done) | rfl)))
  have hFC2 := hB2'.facts6
  go_wp2_with fail
  refine bodyPost_ret (v := .tuple #[.agg #[.int .i64 0, .int .i64 0, .int .i64 0, .slice none 0 0, .int .i64 0, .int .i64 0], .int .i64 0, .int .i64 4]) ?_ rfl ⟨rfl, ?_⟩
  · simp [results, Tryz.results31, go_sem, hFC2] <;> rfl
  · (repeat (first | with_reducible exact hb1 | with_reducible refine Below.drew ?_ | (with_reducible refine Below.set4 ?_ ?side _ _ _ _; case side => (first | omega | (simp; omega) | (simp; done))) | (with_reducible refine Below.setCell ?_ ?side _; case side => (first | omega | (simp; omega) | (simp; done))) | (with_reducible refine Below.alloc ?_ ?side _; case side => (first | omega | (simp; omega) | (simp; done)))))

set_option maxRecDepth 100000 in
set_option maxHeartbeats 4000000 in
theorem hDec_long0 (A : Option Addr) (bs : List UInt8) (n c : Nat) (w : World) (hn : bs.length = n) (h : RdB w A bs) (hc : n ≤ c) (hm : c ≤ 9223372036854775807) (h3n : 3 ≤ n) (h3c : ¬ c = 3) (r : Int × Int × Int) (hr : decR (bs.drop 3) = r) (b s : Nat) (hb : (bs.getD 0 0).toNat = b) (h1 : b / 4 = 48) (hs : b % 4 + 1 = s) :
    Calls Tryz.prog 31 #[.slice A n c] w (HLong bs n 0 (bs.getD 1 0).toNat (bs.getD 2 0).toNat s r w) := by
  obtain ⟨B, off, rfl, hcell⟩ := h.cell (by omega)
  have hcs := decR_cases (bs.drop 3)
  rw [hr] at hcs
  have hc0 := hcell 0 (by omega)
  have hc1 := hcell 1 (by omega)
  have hc2 := hcell 2 (by omega)
  obtain ⟨tt, htt⟩ : ∃ tt, (bs.getD 1 0).toNat = tt := ⟨_, rfl⟩
  have ht256 : tt < 256 := by have := (bs.getD 1 0).toNat_lt; omega
  obtain ⟨ff, hff⟩ : ∃ ff, (bs.getD 2 0).toNat = ff := ⟨_, rfl⟩
  have hf256 : ff < 256 := by have := (bs.getD 2 0).toNat_lt; omega
  rw [htt] at hc1
  rw [hff] at hc2
  rw [htt, hff]
  rw [hb] at hc0
  have hb256 : b < 256 := by have := (bs.getD 0 0).toNat_lt; omega
  simp only [Nat.add_zero] at hc0
  obtain ⟨x, hx⟩ : ∃ x, bits .andNot .u8 (b : Int) 3 = x := ⟨_, rfl⟩
  have hxv := andNot3 b hb256
  rw [hx] at hxv
  have e0 : (x == 64) = false := by rw [hxv]; simp; try omega
  have e1 : (x == 192) = true := by rw [hxv]; simp; try omega
  obtain ⟨y, hy⟩ : ∃ y, bits .and .u8 (b : Int) 3 = y := ⟨_, rfl⟩
  have hyv := and3 b hb256
  rw [hy] at hyv
  have hy0 : 0 ≤ y := by omega
  have hy3 : y ≤ 3 := by omega
  have e2 : y + 1 = (s : Int) := by omega
  have hs4 : s ≤ 4 := by omega
  have hs1 : 1 ≤ s := by omega
  clear hxv hyv hs h1
  have hg := World.block_lt_of_cell? w _ hc0
  have HR := Lib.hid h
  have HN := Lib.hid hn
  clear hcell h hn hb
  go_enter Tryz.func31, Tryz.ntmps31
  go_upto_region 12 with (fail)
  refine wp_world (fun w' => Blk w' w.heap.size 61 #[.int .i64 0, .int .i64 0, .int .i64 0, .slice none 0 0, .int .i64 0, .int .i64 0] ∧ Blk w' (w.heap.size + 1) 61 #[.int .i64 0, .int .i64 0, .int .i64 0, .slice none 0 0, .int .i64 0, .int .i64 s] ∧ w'.cell? ⟨B, off + 1, none⟩ = some (.int .u8 tt) ∧ w'.cell? ⟨B, off + 2, none⟩ = some (.int .u8 ff) ∧ Below w.heap.size w w')
    ⟨(Blk.new _ _ _).alloc _, (Blk.new1 _ _ _ _).as (by rw [← e2]), by go_simp, by go_simp, ((Below.refl _ _).alloc (Nat.le_refl _) _).alloc (by simp) _⟩ ?_
  clear hc0 hx hy e0 e1 e2 hc1 hc2
  rintro w1 ⟨hB2, hB5, hc1, hc2, hb1⟩
  have hFH := hB5.facts6
  have hFC := hB2.facts6
  have hz1 := hb1.size
  have hdl : (bs.drop 3).length = n - 3 := by rw [List.length_drop, HN.out]
  have hrd3 : ∀ (w' : World), Below w.heap.size w w' → RdB w' (some ⟨B, off + 3, none⟩) (bs.drop 3) := fun w' hw' => by
    have := (HR.out.below hw').cut (k := 3) (cap := c) (by rw [HN.out]; exact h3n) (by rw [HN.out]; exact hc)
    rw [if_neg h3c] at this
    simpa [add_none] using this
  have HRD3 := Lib.hid hrd3
  have HCS := Lib.hid hcs
  have HRR := Lib.hid hr
  have HDL := Lib.hid hdl
  clear hrd3 hcs hr hdl
  have hBs : ∀ u v, Blk ((w1.setCell ⟨w.heap.size + 1, 1, none⟩ u).setCell ⟨w.heap.size + 1, 2, none⟩ v) w.heap.size 61 #[.int .i64 0, .int .i64 0, .int .i64 0, .slice none 0 0, .int .i64 0, .int .i64 0] := fun u v => by (apply Blk.as; (case h => (repeat (first | with_reducible exact hB2 | with_reducible apply Blk.drew | with_reducible apply Blk.set4 | with_reducible apply Blk.set_ | (with_reducible apply Blk.far4 (hne := ?side); case side => (first | omega | (simp; omega) | (simp; done))) | (with_reducible apply Blk.far (hp := ?side); case side => (first | omega | (simp; omega) | (simp; done))) | with_reducible apply Blk.alloc))); (case e => (first | with_reducible rfl | (simp; done) | rfl)))
  have hFC2 := fun u v => (hBs u v).facts6
  clear hBs
  have HFC2 := Lib.hid hFC2
  clear hFC2
  go_wp2_with fail
  refine (decode_n (some ⟨B, off + 3, none⟩) (bs.drop 3) (n - 3) _ _ HDL.out (HRD3.out _ (by (repeat (first | with_reducible exact hb1 | with_reducible refine Below.drew ?_ | (with_reducible refine Below.set4 ?_ ?side _ _ _ _; case side => (first | omega | (simp; omega) | (simp; done))) | (with_reducible refine Below.setCell ?_ ?side _; case side => (first | omega | (simp; omega) | (simp; done))) | (with_reducible refine Below.alloc ?_ ?side _; case side => (first | omega | (simp; omega) | (simp; done))))))) (by omega) (by omega) r HRR.out).mono ?_
  rintro e w' ⟨rfl, rfl⟩
  rcases HCS.out with ⟨hrv, _⟩ | ⟨m, K, hrv, hK1, hmd, hK2, hK3, hm9⟩
  · subst hrv
    have hFC2 := HFC2.out (.int .i64 tt) (.int .i64 ff)
    go_wp2_with fail
    refine bodyPost_ret (v := .tuple #[.agg #[.int .i64 0, .int .i64 0, .int .i64 0, .slice none 0 0, .int .i64 0, .int .i64 0], .int .i64 0, .int .i64 4]) ?_ rfl (show HLong _ _ _ _ _ _ _ _ _ _ from Or.inl ⟨by simp, rfl, ?_⟩)
    · simp [results, Tryz.results31, go_sem, hFC2] <;> rfl
    · (repeat (first | with_reducible exact hb1 | with_reducible refine Below.drew ?_ | (with_reducible refine Below.set4 ?_ ?side _ _ _ _; case side => (first | omega | (simp; omega) | (simp; done))) | (with_reducible refine Below.setCell ?_ ?side _; case side => (first | omega | (simp; omega) | (simp; done))) | (with_reducible refine Below.alloc ?_ ?side _; case side => (first | omega | (simp; omega) | (simp; done)))))
  · have hms := (dec_size _ m K hK1 hm9).1
    have hK8 : K ≤ 8 := by have := decLen_cases (bs.drop 3); omega
    rw [HDL.out] at hK2
    subst hrv
    clear hm9 HCS hK1 hmd
    by_cases hm120 : 120 < m
    · have hmi : (120 : Int) < (m : Int) := by omega
      have hFC2 := HFC2.out (.int .i64 tt) (.int .i64 ff)
      go_wp2_with fail
      refine bodyPost_ret (v := .tuple #[.agg #[.int .i64 0, .int .i64 0, .int .i64 0, .slice none 0 0, .int .i64 0, .int .i64 0], .int .i64 0, .int .i64 1]) ?_ rfl (show HLong _ _ _ _ _ _ _ _ _ _ from Or.inr (Or.inl ⟨by simp, by simpa using hm120, rfl, ?_⟩))
      · simp [results, Tryz.results31, go_sem, hFC2] <;> rfl
      · (repeat (first | with_reducible exact hb1 | with_reducible refine Below.drew ?_ | (with_reducible refine Below.set4 ?_ ?side _ _ _ _; case side => (first | omega | (simp; omega) | (simp; done))) | (with_reducible refine Below.setCell ?_ ?side _; case side => (first | omega | (simp; omega) | (simp; done))) | (with_reducible refine Below.alloc ?_ ?side _; case side => (first | omega | (simp; omega) | (simp; done)))))
    · have hmi : (m : Int) ≤ 120 := by omega
      obtain ⟨u, hu⟩ : ∃ u, 3 + K = u := ⟨_, rfl⟩
      obtain ⟨v, hv⟩ : ∃ v, u + m = v := ⟨_, rfl⟩
      have hui : (3 : Int) + (K : Int) = (u : Int) := by omega
      have hvi : (u : Int) + (m : Int) = (v : Int) := by omega
      have hu11 : u ≤ 11 := by omega
      by_cases hnv : n < v
      · have hFC2 := HFC2.out (.int .i64 tt) (.int .i64 ff)
        have hnvi : (n : Int) < (v : Int) := by omega
        go_wp2_with fail
        refine bodyPost_ret (v := .tuple #[.agg #[.int .i64 0, .int .i64 0, .int .i64 0, .slice none 0 0, .int .i64 0, .int .i64 0], .int .i64 0, .int .i64 4]) ?_ rfl (show HLong _ _ _ _ _ _ _ _ _ _ from Or.inr (Or.inr (Or.inl ⟨by simp, by simpa using hm120, by simp; omega, rfl, ?_⟩)))
        · simp [results, Tryz.results31, go_sem, hFC2] <;> rfl
        · (repeat (first | with_reducible exact hb1 | with_reducible refine Below.drew ?_ | (with_reducible refine Below.set4 ?_ ?side _ _ _ _; case side => (first | omega | (simp; omega) | (simp; done))) | (with_reducible refine Below.setCell ?_ ?side _; case side => (first | omega | (simp; omega) | (simp; done))) | (with_reducible refine Below.alloc ?_ ?side _; case side => (first | omega | (simp; omega) | (simp; done)))))
      · have hnvi : ¬ (n : Int) < (v : Int) := by omega
        go_upto_region 28 with (fail)
        refine wp_world (fun w' => Blk w' w.heap.size 61 #[.int .i64 0, .int .i64 0, .int .i64 0, .slice none 0 0, .int .i64 0, .int .i64 0] ∧ Blk w' (w.heap.size + 1) 61 #[.int .i64 0, .int .i64 tt, .int .i64 ff, .slice none 0 0, .int .i64 0, .int .i64 s] ∧ Below w.heap.size w w')
          ⟨by (apply Blk.as; (case h => (repeat (first | with_reducible exact hB2 | with_reducible apply Blk.drew | with_reducible apply Blk.set4 | with_reducible apply Blk.set_ | (with_reducible apply Blk.far4 (hne := ?side); case side => (first | omega | (simp; omega) | (simp; done))) | (with_reducible apply Blk.far (hp := ?side); case side => (first | omega | (simp; omega) | (simp; done))) | with_reducible apply Blk.alloc))); (case e => (first | with_reducible rfl | (simp; done) | rfl))), by (apply Blk.as; (case h => (repeat (first | with_reducible exact hB5 | with_reducible apply Blk.drew | with_reducible apply Blk.set4 | with_reducible apply Blk.set_ | (with_reducible apply Blk.far4 (hne := ?side); case side => (first | omega | (simp; omega) | (simp; done))) | (with_reducible apply Blk.far (hp := ?side); case side => (first | omega | (simp; omega) | (simp; done))) | with_reducible apply Blk.alloc))); (case e => (first | with_reducible rfl | (simp; done) | rfl))), by (repeat (first | with_reducible exact hb1 | with_reducible refine Below.drew ?_ | (with_reducible refine Below.set4 ?_ ?side _ _ _ _; case side => (first | omega | (simp; omega) | (simp; done))) | (with_reducible refine Below.setCell ?_ ?side _; case side => (first | omega | (simp; omega) | (simp; done))) | (with_reducible refine Below.alloc ?_ ?side _; case side => (first | omega | (simp; omega) | (simp; done)))))⟩ ?_
        clear hFH hFC hB2 hB5 hb1 hc1 hc2 HFC2 HRD3 hz1
        rintro w3 ⟨hB2, hB5, hbz⟩
        have hg3 := hB5.lt
        have hvu : v - u = m := by omega
        have hcu : (v : Int) ≤ (c : Int) := by omega
        have huv : (u : Int) ≤ (v : Int) := by omega
        have hbz4 : ∀ o, Below w.heap.size w (w3.alloc o) := fun o => hbz.alloc hbz.size _
        have hml : ((bs.drop u).take m).length = m := by rw [List.length_take, List.length_drop, HN.out]; omega
        have HML := Lib.hid hml
        have HB2 := Lib.hid hB2
        have HB5 := Lib.hid hB5
        have HBZ := Lib.hid hbz
        have HBZ4 := Lib.hid hbz4
        clear hB2 hB5 hbz hbz4 hml
        obtain ⟨tok, htok⟩ : ∃ tok, (bs.drop u).take m = tok := ⟨_, rfl⟩
        have HTOK := Lib.hid htok
        clear htok
        go_upto_region 30 with (at_builtin; refine wpList_appB _ rfl (.tmp 90) (.tmp 96) _ rfl (w.heap.size + 2) 5 Tryz.underlying30 u8_info (some ⟨w3.heap.size, 0, none⟩) 0 0 [] rfl rfl (OwnB.made w3 _ _ hg3) _ m _ ((bs.drop u).take m) rfl HML.out (RdB.mid (HR.out.below (HBZ4.out _)) u m c (by rw [HN.out]; omega) (by rw [HN.out]; exact hc)) tok HTOK.out m (by omega) (by omega) (by simp; omega) ?_; intro T d w5 hO5 hd5 hm5 hb5; have hFH5 := ((HB5.out.alloc (.cells #[] 5)).below hb5 (by omega)).facts6)
        generalize (if c = u then (some (⟨B, off, none⟩ : Addr)) else some ⟨B, off + u, none⟩) = dead
        all_goals
          refine wp_world (fun w' => Blk w' w.heap.size 61 #[.int .i64 0, .int .i64 0, .int .i64 0, .slice none 0 0, .int .i64 0, .int .i64 0] ∧ Blk w' (w.heap.size + 1) 61 #[.int .i64 0, .int .i64 tt, .int .i64 ff, .slice T m d, .int .i64 0, .int .i64 s] ∧ w'.ownsRow (w.heap.size + 2) 5 1 (.slice T m d) m (u8s tok) ∧ Below w.heap.size w w')
            ⟨by (apply Blk.as; (case h => (repeat (first | with_reducible exact (HB2.out.alloc (.cells #[] 5)).below hb5 (by omega) | with_reducible apply Blk.drew | with_reducible apply Blk.set4 | with_reducible apply Blk.set_ | (with_reducible apply Blk.far4 (hne := ?side); case side => (first | omega | (simp; omega) | (simp; done))) | (with_reducible apply Blk.far (hp := ?side); case side => (first | omega | (simp; omega) | (simp; done))) | with_reducible apply Blk.alloc))); (case e => (first | with_reducible rfl | (simp; done) | rfl))), by (apply Blk.as; (case h => (repeat (first | with_reducible exact (HB5.out.alloc (.cells #[] 5)).below hb5 (by omega) | with_reducible apply Blk.drew | with_reducible apply Blk.set4 | with_reducible apply Blk.set_ | (with_reducible apply Blk.far4 (hne := ?side); case side => (first | omega | (simp; omega) | (simp; done))) | (with_reducible apply Blk.far (hp := ?side); case side => (first | omega | (simp; omega) | (simp; done))) | with_reducible apply Blk.alloc))); (case e => (first | with_reducible rfl | (simp; done) | rfl))), ?own9, by (repeat (first | with_reducible exact (HBZ4.out (.cells #[] 5)).trans (hb5.mono (by omega)) | with_reducible refine Below.drew ?_ | (with_reducible refine Below.set4 ?_ ?side _ _ _ _; case side => (first | omega | (simp; omega) | (simp; done))) | (with_reducible refine Below.setCell ?_ ?side _; case side => (first | omega | (simp; omega) | (simp; done))) | (with_reducible refine Below.alloc ?_ ?side _; case side => (first | omega | (simp; omega) | (simp; done)))))⟩ ?_
          case own9 =>
            have h9 : w5.ownsRow (w.heap.size + 2) 5 1 (.slice T m d) m (u8s tok) := by
              have h8 := hO5
              unfold OwnB at h8
              rw [← HTOK.out, HML.out] at h8
              rw [← HTOK.out]; exact h8
            (repeat (first | with_reducible exact h9 | with_reducible refine World.ownsRow.drew ?_ | (with_reducible refine ownsRow_setCell_below ?_ ?side _; case side => (first | omega | (simp; omega) | (simp; done))) | with_reducible refine World.ownsRow.alloc ?_ _))
          clear hFH5 hO5 hb5 HB2 HB5 HBZ HBZ4
          rintro w2 ⟨hB2, hB5, hT9, hbz⟩
          have HTL : Hid (tok.length = m) := by show _ = _; rw [← HTOK.out]; exact HML.out
          have HFN : Hid (∀ e w', HTail bs n 0 tt ff tok v s w e w' → HLong bs n 0 tt ff s ((m : Int), (K : Int), 0) w e w') := fun e w' h => by
            refine Or.inr (Or.inr (Or.inr ⟨rfl, by simpa using hm120, by simp; omega, ?_⟩))
            simp only [Int.toNat_natCast]
            rw [hu, hv, HTOK.out]
            exact h
          have HT := Lib.hid hT9
          have HG2 : Hid (w.heap.size + 2 ≤ w2.heap.size) := hB5.lt
          have HB2 := Lib.hid hB2
          have HB5 := Lib.hid hB5
          have HBZ := Lib.hid hbz
          clear hB2 hB5 hbz hT9 hg3
          have hFC := HB2.out.facts6
          have hFH := HB5.out.facts6
          have hu0 : v + s ≤ 9223372036854775807 := by omega
          by_cases hsh : n < v + s
          · have hti := decide_eq_true (show (n : Int) < ((v : Nat) : Int) + (s : Int) by omega)
            have hbd : ((v : Nat) : Int) + (s : Int) ≤ 9223372036854775807 := by omega
            go_wp2_with fail
            refine bodyPost_ret (v := .tuple #[.agg #[.int .i64 0, .int .i64 0, .int .i64 0, .slice none 0 0, .int .i64 0, .int .i64 0], .int .i64 0, .int .i64 4]) ?_ rfl ?_
            · simp [results, Tryz.results31, go_sem, hFC] <;> rfl
            · refine HFN.out _ _ (Or.inl ⟨hsh, rfl, ?_⟩)
              (repeat (first | with_reducible exact HBZ.out | with_reducible refine Below.drew ?_ | (with_reducible refine Below.set4 ?_ ?side _ _ _ _; case side => (first | omega | (simp; omega) | (simp; done))) | (with_reducible refine Below.setCell ?_ ?side _; case side => (first | omega | (simp; omega) | (simp; done))) | (with_reducible refine Below.alloc ?_ ?side _; case side => (first | omega | (simp; omega) | (simp; done)))))
          · have hcv : ¬ c = v := by omega
            obtain ⟨ms, hms⟩ : ∃ ms, (bs.drop v).take s = ms := ⟨_, rfl⟩
            have hmsl : ms.length = s := by rw [← hms, List.length_take, List.length_drop, HN.out]; omega
            have hcell : ∀ (w' : World), Below w.heap.size w w' → ∀ k, k < s → w'.cell? ⟨B, off + v + k, none⟩ = some (.int .u8 ((ms.getD k 0).toNat : Int)) := by
              intro w' hw' k hk
              obtain ⟨B', off', hA', hc'⟩ := (HR.out.below hw').cell (by have := HN.out; omega)
              injection hA' with hA'
              injection hA' with h1 h2
              subst h1 h2
              have := hc' (v + k) (by have := HN.out; omega)
              rw [← Nat.add_assoc] at this
              rw [this, ← hms]
              simp [List.getD, hk, List.getElem?_drop]
            have HMS := Lib.hid hms
            have HML := Lib.hid hmsl
            have HCELL := Lib.hid hcell
            have hz2 : w.heap.size ≤ w2.heap.size := HBZ.out.size
            have hnu : v + s - v = s := by omega
            have hti := decide_eq_false (show ¬ (n : Int) < ((v : Nat) : Int) + (s : Int) by omega)
            have hbd : ((v : Nat) : Int) + (s : Int) ≤ 9223372036854775807 := by omega
            have hcu : ((v + s : Nat) : Int) ≤ (c : Int) := by omega
            clear hms hmsl hcell
            have HFC := Lib.hid hFC
            clear hFC
            have hcu1 : (if c = v then (some (⟨B, off, none⟩ : Addr)) else some ⟨B, off + v, none⟩) = (if c = v then some ⟨B, off, none⟩ else some ⟨B, off + v, none⟩) := rfl
            go_wp2_with fail
            clear hFH
            go_loopw [118] (fun i wr => ∃ k : Nat, k ≤ s ∧ i = .int .i64 k ∧ Blk wr (w.heap.size + 1) 61 #[.int .i64 0, .int .i64 tt, .int .i64 ff, .slice T m d, .int .i64 (valB (ms.take k) 0 : Nat), .int .i64 s] ∧ Blk wr w.heap.size 61 #[.int .i64 0, .int .i64 0, .int .i64 0, .slice none 0 0, .int .i64 0, .int .i64 0] ∧ Below w.heap.size w wr ∧ wr.ownsRow (w.heap.size + 2) 5 1 (.slice T m d) m (u8s tok) ∧ w.heap.size + 2 ≤ wr.heap.size) (fun i _ => s - (intOf i).toNat)
            case atStart => exact ⟨0, Nat.zero_le _, rfl, HB5.out, HB2.out, HBZ.out, HT.out, HG2.out⟩
            case round =>
              obtain ⟨k, hk, rfl, hB5, hB2, hbz, hT, hg2⟩ := hrel
              have HTT := Lib.hid hT
              clear hT
              have HB5 := Lib.hid hB5
              have HB2 := Lib.hid hB2
              have hFH := hB5.facts6
              clear hB5 hB2
              by_cases hlt : k < s
              · have hck := HCELL.out wr hbz k hlt
                have hv : Hid (valB (ms.take (k + 1)) 0 = valB (ms.take k) 0 * 256 + (ms.getD k 0).toNat) := by
                  show _ = _
                  rw [List.take_succ_eq_append_getElem (by rw [HML.out]; exact hlt), valB_snoc]; simp [List.getD, HML.out, hlt]
                have hvl : valB (ms.take k) 0 < 18014398509481984 := by
                  have h1 := valB_bound (ms.take k)
                  have h2 : 256 ^ (ms.take k).length ≤ 256 ^ 4 := Nat.pow_le_pow_right (by decide) (by rw [List.length_take]; omega)
                  omega
                have hv0 : valB (ms.take k) 0 * 256 < 4611686018427387904 := by omega
                generalize hbk : ms.getD k 0 = bk at *
                generalize hvk : valB (ms.take k) 0 = vk at *
                obtain ⟨vn, hvn⟩ : ∃ vn, valB (ms.take (k + 1)) 0 = vn := ⟨_, rfl⟩
                have h9 : (bk.toNat : Int) < 256 := by have := bk.toNat_lt; omega
                have hor := or_byte vk bk.toNat hvl (by omega)
                have hvn' : Hid (vk * 256 + bk.toNat = vn) := by show _ = _; rw [← hvn]; exact hv.out.symm
                have HVN := Lib.hid hvn
                rw [hvn'.out] at hor
                clear hbk hvk hvn hv
                go_wp2_with fail
                go_roundw
                case rel => exact ⟨k + 1, by omega, by go_num, by rw [HVN.out]; (apply Blk.as; (case h => (repeat (first | with_reducible exact HB5.out | with_reducible apply Blk.drew | with_reducible apply Blk.set4 | with_reducible apply Blk.set_ | (with_reducible apply Blk.far4 (hne := ?side); case side => (first | omega | (simp; omega) | (simp; done))) | (with_reducible apply Blk.far (hp := ?side); case side => (first | omega | (simp; omega) | (simp; done))) | with_reducible apply Blk.alloc))); (case e => (first | with_reducible rfl | (simp; done) | rfl))), by (apply Blk.as; (case h => (repeat (first | with_reducible exact HB2.out | with_reducible apply Blk.drew | with_reducible apply Blk.set4 | with_reducible apply Blk.set_ | (with_reducible apply Blk.far4 (hne := ?side); case side => (first | omega | (simp; omega) | (simp; done))) | (with_reducible apply Blk.far (hp := ?side); case side => (first | omega | (simp; omega) | (simp; done))) | with_reducible apply Blk.alloc))); (case e => (first | with_reducible rfl | (simp; done) | rfl))), by (repeat (first | with_reducible exact hbz | with_reducible refine Below.drew ?_ | (with_reducible refine Below.set4 ?_ ?side _ _ _ _; case side => (first | omega | (simp; omega) | (simp; done))) | (with_reducible refine Below.setCell ?_ ?side _; case side => (first | omega | (simp; omega) | (simp; done))) | (with_reducible refine Below.alloc ?_ ?side _; case side => (first | omega | (simp; omega) | (simp; done))))), by (repeat (first | with_reducible exact HTT.out | with_reducible refine World.ownsRow.drew ?_ | (with_reducible refine ownsRow_setCell_below ?_ ?side _; case side => (first | omega | (simp; omega) | (simp; done))) | with_reducible refine World.ownsRow.alloc ?_ _)), by simp; omega⟩
                case measure => simp [intOf]; omega
              · obtain rfl : k = s := by omega
                have hfin : valB (ms.take k) 0 = valB ((bs.drop v).take k) 0 := by rw [HMS.out, List.take_of_length_le (by rw [HML.out]; exact Nat.le_refl _)]
                have HFIN := Lib.hid hfin
                have hFC := HB2.out.facts6
                have hvk : valB (ms.take k) 0 < 4611686018427387904 := by
                  have h1 := valB_bound (ms.take k)
                  have h2 : 256 ^ (ms.take k).length ≤ 256 ^ 4 := Nat.pow_le_pow_right (by decide) (by rw [List.length_take]; omega)
                  omega
                generalize valB (ms.take k) 0 = vk at *
                clear hfin hlt
                go_wp2_with fail
                go_region
                all_goals
                  go_wp2_with fail
                  refine bodyPost_ret (v := .tuple #[.agg #[.int .i64 0, .int .i64 tt, .int .i64 ff, .slice T m d, .int .i64 vk, .int .i64 k], .int .i64 ((v : Int) + k), .int .i64 0]) ?_ rfl ?_
                  · simp [results, Tryz.results31, go_sem, hFC] <;> rfl
                  · refine HFN.out _ _ (Or.inr ⟨by omega, T, d, ?_, ?_, ?_, ?_, ?_⟩)
                    · simp [hcells, HTL.out, ← HFIN.out]
                    · refine rd_of_own8 (base := w.heap.size + 2) (e := 5) (l := m) (c := d) ?_ (by simp [HTL.out])
                      (repeat (first | with_reducible exact HTT.out | with_reducible refine World.ownsRow.drew ?_ | (with_reducible refine ownsRow_setCell_below ?_ ?side _; case side => (first | omega | (simp; omega) | (simp; done))) | with_reducible refine World.ownsRow.alloc ?_ _))
                    · have := own_cap8 HTT.out; simp only [HTL.out]; exact this.1
                    · exact (own_cap8 HTT.out).2
                    · (repeat (first | with_reducible exact hbz | with_reducible refine Below.drew ?_ | (with_reducible refine Below.set4 ?_ ?side _ _ _ _; case side => (first | omega | (simp; omega) | (simp; done))) | (with_reducible refine Below.setCell ?_ ?side _; case side => (first | omega | (simp; omega) | (simp; done))) | (with_reducible refine Below.alloc ?_ ?side _; case side => (first | omega | (simp; omega) | (simp; done)))))

set_option maxRecDepth 100000 in
set_option maxHeartbeats 4000000 in
theorem hDec_long1_three (A : Option Addr) (bs : List UInt8) (n c : Nat) (w : World) (hn : bs.length = n) (h : RdB w A bs) (hc : n ≤ c) (hm : c ≤ 9223372036854775807) (h3n : n = 3) (h3c : c = 3) (b s : Nat) (hb : (bs.getD 0 0).toNat = b) (h1 : b = 240) (hs : s = 0) :
    Calls Tryz.prog 31 #[.slice A n c] w (HBad w 4) := by
  obtain ⟨B, off, rfl, hcell⟩ := h.cell (by omega)
  have hc0 := hcell 0 (by omega)
  have hc1 := hcell 1 (by omega)
  have hc2 := hcell 2 (by omega)
  obtain ⟨tt, htt⟩ : ∃ tt, (bs.getD 1 0).toNat = tt := ⟨_, rfl⟩
  have ht256 : tt < 256 := by have := (bs.getD 1 0).toNat_lt; omega
  obtain ⟨ff, hff⟩ : ∃ ff, (bs.getD 2 0).toNat = ff := ⟨_, rfl⟩
  have hf256 : ff < 256 := by have := (bs.getD 2 0).toNat_lt; omega
  rw [htt] at hc1
  rw [hff] at hc2
  rw [hb] at hc0
  have hb256 : b < 256 := by have := (bs.getD 0 0).toNat_lt; omega
  simp only [Nat.add_zero] at hc0
  have HS0 := Lib.hid hs
  have hs4 : s ≤ 4 := by omega
  clear hs
  have e2 : ((240 : Nat) : Int) = 240 := rfl
  subst h1
  rw [e2] at hc0
  have e3 : bits .andNot .u8 240 3 = 240 := by kernel_rfl
  have hg := World.block_lt_of_cell? w _ hc0
  have HR := Lib.hid h
  have HN := Lib.hid hn
  clear hcell h hn hb
  go_enter Tryz.func31, Tryz.ntmps31
  go_upto_region 12 with (fail)
  refine wp_world (fun w' => Blk w' w.heap.size 61 #[.int .i64 0, .int .i64 0, .int .i64 0, .slice none 0 0, .int .i64 0, .int .i64 0] ∧ Blk w' (w.heap.size + 1) 61 #[.int .i64 1, .int .i64 0, .int .i64 0, .slice none 0 0, .int .i64 0, .int .i64 s] ∧ w'.cell? ⟨B, off + 1, none⟩ = some (.int .u8 tt) ∧ w'.cell? ⟨B, off + 2, none⟩ = some (.int .u8 ff) ∧ Below w.heap.size w w')
    ⟨(Blk.new _ _ _).alloc _, (Blk.new1 _ _ _ _).as (by rw [HS0.out]; rfl), by go_simp, by go_simp, ((Below.refl _ _).alloc (Nat.le_refl _) _).alloc (by simp) _⟩ ?_
  clear hc0 e2 e3 hc1 hc2
  rintro w1 ⟨hB2, hB5, hc1, hc2, hb1⟩
  have hFH := hB5.facts6
  have hFC := hB2.facts6
  have hz1 := hb1.size
  subst h3n
  subst h3c
  go_wp2_with fail
  refine (dec_nil _ _ _).mono ?_
  rintro e w2 ⟨rfl, rfl⟩
  have hB2' : Blk ((w1.setCell ⟨w.heap.size + 1, 1, none⟩ (.int .i64 tt)).setCell ⟨w.heap.size + 1, 2, none⟩ (.int .i64 ff)) w.heap.size 61 #[.int .i64 0, .int .i64 0, .int .i64 0, .slice none 0 0, .int .i64 0, .int .i64 0] := by (apply Blk.as; (case h => (repeat (first | with_reducible exact hB2 | with_reducible apply Blk.drew | with_reducible apply Blk.set4 | with_reducible apply Blk.set_ | (with_reducible apply Blk.far4 (hne := ?side); case side => (first | omega | (simp; omega) | (simp; done))) | (with_reducible apply Blk.far (hp := ?side); case side => (first | omega | (simp; omega) | (simp; done))) | with_reducible apply Blk.alloc))); (case e => (first | with_reducible rfl | (simp; done) | rfl)))
  have hFC2 := hB2'.facts6
  go_wp2_with fail
  refine bodyPost_ret (v := .tuple #[.agg #[.int .i64 0, .int .i64 0, .int .i64 0, .slice none 0 0, .int .i64 0, .int .i64 0], .int .i64 0, .int .i64 4]) ?_ rfl ⟨rfl, ?_⟩
  · simp [results, Tryz.results31, go_sem, hFC2] <;> rfl
  · (repeat (first | with_reducible exact hb1 | with_reducible refine Below.drew ?_ | (with_reducible refine Below.set4 ?_ ?side _ _ _ _; case side => (first | omega | (simp; omega) | (simp; done))) | (with_reducible refine Below.setCell ?_ ?side _; case side => (first | omega | (simp; omega) | (simp; done))) | (with_reducible refine Below.alloc ?_ ?side _; case side => (first | omega | (simp; omega) | (simp; done)))))

set_option maxRecDepth 100000 in
set_option maxHeartbeats 4000000 in
theorem hDec_long1 (A : Option Addr) (bs : List UInt8) (n c : Nat) (w : World) (hn : bs.length = n) (h : RdB w A bs) (hc : n ≤ c) (hm : c ≤ 9223372036854775807) (h3n : 3 ≤ n) (h3c : ¬ c = 3) (r : Int × Int × Int) (hr : decR (bs.drop 3) = r) (b s : Nat) (hb : (bs.getD 0 0).toNat = b) (h1 : b = 240) (hs : s = 0) :
    Calls Tryz.prog 31 #[.slice A n c] w (HLong bs n 1 (bs.getD 1 0).toNat (bs.getD 2 0).toNat s r w) := by
  obtain ⟨B, off, rfl, hcell⟩ := h.cell (by omega)
  have hcs := decR_cases (bs.drop 3)
  rw [hr] at hcs
  have hc0 := hcell 0 (by omega)
  have hc1 := hcell 1 (by omega)
  have hc2 := hcell 2 (by omega)
  obtain ⟨tt, htt⟩ : ∃ tt, (bs.getD 1 0).toNat = tt := ⟨_, rfl⟩
  have ht256 : tt < 256 := by have := (bs.getD 1 0).toNat_lt; omega
  obtain ⟨ff, hff⟩ : ∃ ff, (bs.getD 2 0).toNat = ff := ⟨_, rfl⟩
  have hf256 : ff < 256 := by have := (bs.getD 2 0).toNat_lt; omega
  rw [htt] at hc1
  rw [hff] at hc2
  rw [htt, hff]
  rw [hb] at hc0
  have hb256 : b < 256 := by have := (bs.getD 0 0).toNat_lt; omega
  simp only [Nat.add_zero] at hc0
  have HS0 := Lib.hid hs
  have hs4 : s ≤ 4 := by omega
  clear hs
  have e2 : ((240 : Nat) : Int) = 240 := rfl
  subst h1
  rw [e2] at hc0
  have e3 : bits .andNot .u8 240 3 = 240 := by kernel_rfl
  have hg := World.block_lt_of_cell? w _ hc0
  have HR := Lib.hid h
  have HN := Lib.hid hn
  clear hcell h hn hb
  go_enter Tryz.func31, Tryz.ntmps31
  go_upto_region 12 with (fail)
  refine wp_world (fun w' => Blk w' w.heap.size 61 #[.int .i64 0, .int .i64 0, .int .i64 0, .slice none 0 0, .int .i64 0, .int .i64 0] ∧ Blk w' (w.heap.size + 1) 61 #[.int .i64 1, .int .i64 0, .int .i64 0, .slice none 0 0, .int .i64 0, .int .i64 s] ∧ w'.cell? ⟨B, off + 1, none⟩ = some (.int .u8 tt) ∧ w'.cell? ⟨B, off + 2, none⟩ = some (.int .u8 ff) ∧ Below w.heap.size w w')
    ⟨(Blk.new _ _ _).alloc _, (Blk.new1 _ _ _ _).as (by rw [HS0.out]; rfl), by go_simp, by go_simp, ((Below.refl _ _).alloc (Nat.le_refl _) _).alloc (by simp) _⟩ ?_
  clear hc0 e2 e3 hc1 hc2
  rintro w1 ⟨hB2, hB5, hc1, hc2, hb1⟩
  have hFH := hB5.facts6
  have hFC := hB2.facts6
  have hz1 := hb1.size
  have hdl : (bs.drop 3).length = n - 3 := by rw [List.length_drop, HN.out]
  have hrd3 : ∀ (w' : World), Below w.heap.size w w' → RdB w' (some ⟨B, off + 3, none⟩) (bs.drop 3) := fun w' hw' => by
    have := (HR.out.below hw').cut (k := 3) (cap := c) (by rw [HN.out]; exact h3n) (by rw [HN.out]; exact hc)
    rw [if_neg h3c] at this
    simpa [add_none] using this
  have HRD3 := Lib.hid hrd3
  have HCS := Lib.hid hcs
  have HRR := Lib.hid hr
  have HDL := Lib.hid hdl
  clear hrd3 hcs hr hdl
  have hBs : ∀ u v, Blk ((w1.setCell ⟨w.heap.size + 1, 1, none⟩ u).setCell ⟨w.heap.size + 1, 2, none⟩ v) w.heap.size 61 #[.int .i64 0, .int .i64 0, .int .i64 0, .slice none 0 0, .int .i64 0, .int .i64 0] := fun u v => by (apply Blk.as; (case h => (repeat (first | with_reducible exact hB2 | with_reducible apply Blk.drew | with_reducible apply Blk.set4 | with_reducible apply Blk.set_ | (with_reducible apply Blk.far4 (hne := ?side); case side => (first | omega | (simp; omega) | (simp; done))) | (with_reducible apply Blk.far (hp := ?side); case side => (first | omega | (simp; omega) | (simp; done))) | with_reducible apply Blk.alloc))); (case e => (first | with_reducible rfl | (simp; done) | rfl)))
  have hFC2 := fun u v => (hBs u v).facts6
  clear hBs
  have HFC2 := Lib.hid hFC2
  clear hFC2
  go_wp2_with fail
  refine (decode_n (some ⟨B, off + 3, none⟩) (bs.drop 3) (n - 3) _ _ HDL.out (HRD3.out _ (by (repeat (first | with_reducible exact hb1 | with_reducible refine Below.drew ?_ | (with_reducible refine Below.set4 ?_ ?side _ _ _ _; case side => (first | omega | (simp; omega) | (simp; done))) | (with_reducible refine Below.setCell ?_ ?side _; case side => (first | omega | (simp; omega) | (simp; done))) | (with_reducible refine Below.alloc ?_ ?side _; case side => (first | omega | (simp; omega) | (simp; done))))))) (by omega) (by omega) r HRR.out).mono ?_
  rintro e w' ⟨rfl, rfl⟩
  rcases HCS.out with ⟨hrv, _⟩ | ⟨m, K, hrv, hK1, hmd, hK2, hK3, hm9⟩
  · subst hrv
    have hFC2 := HFC2.out (.int .i64 tt) (.int .i64 ff)
    go_wp2_with fail
    refine bodyPost_ret (v := .tuple #[.agg #[.int .i64 0, .int .i64 0, .int .i64 0, .slice none 0 0, .int .i64 0, .int .i64 0], .int .i64 0, .int .i64 4]) ?_ rfl (show HLong _ _ _ _ _ _ _ _ _ _ from Or.inl ⟨by simp, rfl, ?_⟩)
    · simp [results, Tryz.results31, go_sem, hFC2] <;> rfl
    · (repeat (first | with_reducible exact hb1 | with_reducible refine Below.drew ?_ | (with_reducible refine Below.set4 ?_ ?side _ _ _ _; case side => (first | omega | (simp; omega) | (simp; done))) | (with_reducible refine Below.setCell ?_ ?side _; case side => (first | omega | (simp; omega) | (simp; done))) | (with_reducible refine Below.alloc ?_ ?side _; case side => (first | omega | (simp; omega) | (simp; done)))))
  · have hms := (dec_size _ m K hK1 hm9).1
    have hK8 : K ≤ 8 := by have := decLen_cases (bs.drop 3); omega
    rw [HDL.out] at hK2
    subst hrv
    clear hm9 HCS hK1 hmd
    by_cases hm120 : 120 < m
    · have hmi : (120 : Int) < (m : Int) := by omega
      have hFC2 := HFC2.out (.int .i64 tt) (.int .i64 ff)
      go_wp2_with fail
      refine bodyPost_ret (v := .tuple #[.agg #[.int .i64 0, .int .i64 0, .int .i64 0, .slice none 0 0, .int .i64 0, .int .i64 0], .int .i64 0, .int .i64 1]) ?_ rfl (show HLong _ _ _ _ _ _ _ _ _ _ from Or.inr (Or.inl ⟨by simp, by simpa using hm120, rfl, ?_⟩))
      · simp [results, Tryz.results31, go_sem, hFC2] <;> rfl
      · (repeat (first | with_reducible exact hb1 | with_reducible refine Below.drew ?_ | (with_reducible refine Below.set4 ?_ ?side _ _ _ _; case side => (first | omega | (simp; omega) | (simp; done))) | (with_reducible refine Below.setCell ?_ ?side _; case side => (first | omega | (simp; omega) | (simp; done))) | (with_reducible refine Below.alloc ?_ ?side _; case side => (first | omega | (simp; omega) | (simp; done)))))
    · have hmi : (m : Int) ≤ 120 := by omega
      obtain ⟨u, hu⟩ : ∃ u, 3 + K = u := ⟨_, rfl⟩
      obtain ⟨v, hv⟩ : ∃ v, u + m = v := ⟨_, rfl⟩
      have hui : (3 : Int) + (K : Int) = (u : Int) := by omega
      have hvi : (u : Int) + (m : Int) = (v : Int) := by omega
      have hu11 : u ≤ 11 := by omega
      by_cases hnv : n < v
      · have hFC2 := HFC2.out (.int .i64 tt) (.int .i64 ff)
        have hnvi : (n : Int) < (v : Int) := by omega
        go_wp2_with fail
        refine bodyPost_ret (v := .tuple #[.agg #[.int .i64 0, .int .i64 0, .int .i64 0, .slice none 0 0, .int .i64 0, .int .i64 0], .int .i64 0, .int .i64 4]) ?_ rfl (show HLong _ _ _ _ _ _ _ _ _ _ from Or.inr (Or.inr (Or.inl ⟨by simp, by simpa using hm120, by simp; omega, rfl, ?_⟩)))
        · simp [results, Tryz.results31, go_sem, hFC2] <;> rfl
        · (repeat (first | with_reducible exact hb1 | with_reducible refine Below.drew ?_ | (with_reducible refine Below.set4 ?_ ?side _ _ _ _; case side => (first | omega | (simp; omega) | (simp; done))) | (with_reducible refine Below.setCell ?_ ?side _; case side => (first | omega | (simp; omega) | (simp; done))) | (with_reducible refine Below.alloc ?_ ?side _; case side => (first | omega | (simp; omega) | (simp; done)))))
      · have hnvi : ¬ (n : Int) < (v : Int) := by omega
        go_upto_region 28 with (fail)
        refine wp_world (fun w' => Blk w' w.heap.size 61 #[.int .i64 0, .int .i64 0, .int .i64 0, .slice none 0 0, .int .i64 0, .int .i64 0] ∧ Blk w' (w.heap.size + 1) 61 #[.int .i64 1, .int .i64 tt, .int .i64 ff, .slice none 0 0, .int .i64 0, .int .i64 s] ∧ Below w.heap.size w w')
          ⟨by (apply Blk.as; (case h => (repeat (first | with_reducible exact hB2 | with_reducible apply Blk.drew | with_reducible apply Blk.set4 | with_reducible apply Blk.set_ | (with_reducible apply Blk.far4 (hne := ?side); case side => (first | omega | (simp; omega) | (simp; done))) | (with_reducible apply Blk.far (hp := ?side); case side => (first | omega | (simp; omega) | (simp; done))) | with_reducible apply Blk.alloc))); (case e => (first | with_reducible rfl | (simp; done) | rfl))), by (apply Blk.as; (case h => (repeat (first | with_reducible exact hB5 | with_reducible apply Blk.drew | with_reducible apply Blk.set4 | with_reducible apply Blk.set_ | (with_reducible apply Blk.far4 (hne := ?side); case side => (first | omega | (simp; omega) | (simp; done))) | (with_reducible apply Blk.far (hp := ?side); case side => (first | omega | (simp; omega) | (simp; done))) | with_reducible apply Blk.alloc))); (case e => (first | with_reducible rfl | (simp; done) | rfl))), by (repeat (first | with_reducible exact hb1 | with_reducible refine Below.drew ?_ | (with_reducible refine Below.set4 ?_ ?side _ _ _ _; case side => (first | omega | (simp; omega) | (simp; done))) | (with_reducible refine Below.setCell ?_ ?side _; case side => (first | omega | (simp; omega) | (simp; done))) | (with_reducible refine Below.alloc ?_ ?side _; case side => (first | omega | (simp; omega) | (simp; done)))))⟩ ?_
        clear hFH hFC hB2 hB5 hb1 hc1 hc2 HFC2 HRD3 hz1
        rintro w3 ⟨hB2, hB5, hbz⟩
        have hg3 := hB5.lt
        have hvu : v - u = m := by omega
        have hcu : (v : Int) ≤ (c : Int) := by omega
        have huv : (u : Int) ≤ (v : Int) := by omega
        have hbz4 : ∀ o, Below w.heap.size w (w3.alloc o) := fun o => hbz.alloc hbz.size _
        have hml : ((bs.drop u).take m).length = m := by rw [List.length_take, List.length_drop, HN.out]; omega
        have HML := Lib.hid hml
        have HB2 := Lib.hid hB2
        have HB5 := Lib.hid hB5
        have HBZ := Lib.hid hbz
        have HBZ4 := Lib.hid hbz4
        clear hB2 hB5 hbz hbz4 hml
        obtain ⟨tok, htok⟩ : ∃ tok, (bs.drop u).take m = tok := ⟨_, rfl⟩
        have HTOK := Lib.hid htok
        clear htok
        go_upto_region 30 with (at_builtin; refine wpList_appB _ rfl (.tmp 90) (.tmp 96) _ rfl (w.heap.size + 2) 5 Tryz.underlying30 u8_info (some ⟨w3.heap.size, 0, none⟩) 0 0 [] rfl rfl (OwnB.made w3 _ _ hg3) _ m _ ((bs.drop u).take m) rfl HML.out (RdB.mid (HR.out.below (HBZ4.out _)) u m c (by rw [HN.out]; omega) (by rw [HN.out]; exact hc)) tok HTOK.out m (by omega) (by omega) (by simp; omega) ?_; intro T d w5 hO5 hd5 hm5 hb5; have hFH5 := ((HB5.out.alloc (.cells #[] 5)).below hb5 (by omega)).facts6)
        generalize (if c = u then (some (⟨B, off, none⟩ : Addr)) else some ⟨B, off + u, none⟩) = dead
        all_goals
          refine wp_world (fun w' => Blk w' w.heap.size 61 #[.int .i64 0, .int .i64 0, .int .i64 0, .slice none 0 0, .int .i64 0, .int .i64 0] ∧ Blk w' (w.heap.size + 1) 61 #[.int .i64 1, .int .i64 tt, .int .i64 ff, .slice T m d, .int .i64 0, .int .i64 s] ∧ w'.ownsRow (w.heap.size + 2) 5 1 (.slice T m d) m (u8s tok) ∧ Below w.heap.size w w')
            ⟨by (apply Blk.as; (case h => (repeat (first | with_reducible exact (HB2.out.alloc (.cells #[] 5)).below hb5 (by omega) | with_reducible apply Blk.drew | with_reducible apply Blk.set4 | with_reducible apply Blk.set_ | (with_reducible apply Blk.far4 (hne := ?side); case side => (first | omega | (simp; omega) | (simp; done))) | (with_reducible apply Blk.far (hp := ?side); case side => (first | omega | (simp; omega) | (simp; done))) | with_reducible apply Blk.alloc))); (case e => (first | with_reducible rfl | (simp; done) | rfl))), by (apply Blk.as; (case h => (repeat (first | with_reducible exact (HB5.out.alloc (.cells #[] 5)).below hb5 (by omega) | with_reducible apply Blk.drew | with_reducible apply Blk.set4 | with_reducible apply Blk.set_ | (with_reducible apply Blk.far4 (hne := ?side); case side => (first | omega | (simp; omega) | (simp; done))) | (with_reducible apply Blk.far (hp := ?side); case side => (first | omega | (simp; omega) | (simp; done))) | with_reducible apply Blk.alloc))); (case e => (first | with_reducible rfl | (simp; done) | rfl))), ?own9, by (repeat (first | with_reducible exact (HBZ4.out (.cells #[] 5)).trans (hb5.mono (by omega)) | with_reducible refine Below.drew ?_ | (with_reducible refine Below.set4 ?_ ?side _ _ _ _; case side => (first | omega | (simp; omega) | (simp; done))) | (with_reducible refine Below.setCell ?_ ?side _; case side => (first | omega | (simp; omega) | (simp; done))) | (with_reducible refine Below.alloc ?_ ?side _; case side => (first | omega | (simp; omega) | (simp; done)))))⟩ ?_
          case own9 =>
            have h9 : w5.ownsRow (w.heap.size + 2) 5 1 (.slice T m d) m (u8s tok) := by
              have h8 := hO5
              unfold OwnB at h8
              rw [← HTOK.out, HML.out] at h8
              rw [← HTOK.out]; exact h8
            (repeat (first | with_reducible exact h9 | with_reducible refine World.ownsRow.drew ?_ | (with_reducible refine ownsRow_setCell_below ?_ ?side _; case side => (first | omega | (simp; omega) | (simp; done))) | with_reducible refine World.ownsRow.alloc ?_ _))
          clear hFH5 hO5 hb5 HB2 HB5 HBZ HBZ4
          rintro w2 ⟨hB2, hB5, hT9, hbz⟩
          have HTL : Hid (tok.length = m) := by show _ = _; rw [← HTOK.out]; exact HML.out
          have HFN : Hid (∀ e w', HTail bs n 1 tt ff tok v s w e w' → HLong bs n 1 tt ff s ((m : Int), (K : Int), 0) w e w') := fun e w' h => by
            refine Or.inr (Or.inr (Or.inr ⟨rfl, by simpa using hm120, by simp; omega, ?_⟩))
            simp only [Int.toNat_natCast]
            rw [hu, hv, HTOK.out]
            exact h
          have HT := Lib.hid hT9
          have HG2 : Hid (w.heap.size + 2 ≤ w2.heap.size) := hB5.lt
          have HB2 := Lib.hid hB2
          have HB5 := Lib.hid hB5
          have HBZ := Lib.hid hbz
          clear hB2 hB5 hbz hT9 hg3
          have hFC := HB2.out.facts6
          have hFH := HB5.out.facts6
          have hu0 : v + s ≤ 9223372036854775807 := by omega
          by_cases hsh : n < v + s
          · have hti := decide_eq_true (show (n : Int) < ((v : Nat) : Int) + (s : Int) by omega)
            have hbd : ((v : Nat) : Int) + (s : Int) ≤ 9223372036854775807 := by omega
            go_wp2_with fail
            refine bodyPost_ret (v := .tuple #[.agg #[.int .i64 0, .int .i64 0, .int .i64 0, .slice none 0 0, .int .i64 0, .int .i64 0], .int .i64 0, .int .i64 4]) ?_ rfl ?_
            · simp [results, Tryz.results31, go_sem, hFC] <;> rfl
            · refine HFN.out _ _ (Or.inl ⟨hsh, rfl, ?_⟩)
              (repeat (first | with_reducible exact HBZ.out | with_reducible refine Below.drew ?_ | (with_reducible refine Below.set4 ?_ ?side _ _ _ _; case side => (first | omega | (simp; omega) | (simp; done))) | (with_reducible refine Below.setCell ?_ ?side _; case side => (first | omega | (simp; omega) | (simp; done))) | (with_reducible refine Below.alloc ?_ ?side _; case side => (first | omega | (simp; omega) | (simp; done)))))
          · rcases Nat.decEq c v with hcv | hcv
            all_goals
              obtain ⟨ms, hms⟩ : ∃ ms, (bs.drop v).take s = ms := ⟨_, rfl⟩
              have hmsl : ms.length = s := by rw [← hms, List.length_take, List.length_drop, HN.out]; omega
              have hcell : ∀ (w' : World), Below w.heap.size w w' → ∀ k, k < s → w'.cell? ⟨B, off + v + k, none⟩ = some (.int .u8 ((ms.getD k 0).toNat : Int)) := by
                intro w' hw' k hk
                obtain ⟨B', off', hA', hc'⟩ := (HR.out.below hw').cell (by have := HN.out; omega)
                injection hA' with hA'
                injection hA' with h1 h2
                subst h1 h2
                have := hc' (v + k) (by have := HN.out; omega)
                rw [← Nat.add_assoc] at this
                rw [this, ← hms]
                simp [List.getD, hk, List.getElem?_drop]
              have HMS := Lib.hid hms
              have HML := Lib.hid hmsl
              have HCELL := Lib.hid hcell
              have hz2 : w.heap.size ≤ w2.heap.size := HBZ.out.size
              have hnu : v + s - v = s := by omega
              have hti := decide_eq_false (show ¬ (n : Int) < ((v : Nat) : Int) + (s : Int) by omega)
              have hbd : ((v : Nat) : Int) + (s : Int) ≤ 9223372036854775807 := by omega
              have hcu : ((v + s : Nat) : Int) ≤ (c : Int) := by omega
              clear hms hmsl hcell
              have HFC := Lib.hid hFC
              clear hFC
              have hcu1 : (if c = v then (some (⟨B, off, none⟩ : Addr)) else some ⟨B, off + v, none⟩) = (if c = v then some ⟨B, off, none⟩ else some ⟨B, off + v, none⟩) := rfl
              go_wp2_with fail
              clear hFH
              go_loopw [118] (fun i wr => ∃ k : Nat, k ≤ s ∧ i = .int .i64 k ∧ Blk wr (w.heap.size + 1) 61 #[.int .i64 1, .int .i64 tt, .int .i64 ff, .slice T m d, .int .i64 (valB (ms.take k) 0 : Nat), .int .i64 s] ∧ Blk wr w.heap.size 61 #[.int .i64 0, .int .i64 0, .int .i64 0, .slice none 0 0, .int .i64 0, .int .i64 0] ∧ Below w.heap.size w wr ∧ wr.ownsRow (w.heap.size + 2) 5 1 (.slice T m d) m (u8s tok) ∧ w.heap.size + 2 ≤ wr.heap.size) (fun i _ => s - (intOf i).toNat)
              case atStart => exact ⟨0, Nat.zero_le _, rfl, HB5.out, HB2.out, HBZ.out, HT.out, HG2.out⟩
              case round =>
                obtain ⟨k, hk, rfl, hB5, hB2, hbz, hT, hg2⟩ := hrel
                have HTT := Lib.hid hT
                clear hT
                have HB5 := Lib.hid hB5
                have HB2 := Lib.hid hB2
                have hFH := hB5.facts6
                clear hB5 hB2
                by_cases hlt : k < s
                · exact absurd hlt (by have := HS0.out; omega)
                · obtain rfl : k = s := by omega
                  have hfin : valB (ms.take k) 0 = valB ((bs.drop v).take k) 0 := by rw [HMS.out, List.take_of_length_le (by rw [HML.out]; exact Nat.le_refl _)]
                  have HFIN := Lib.hid hfin
                  have hFC := HB2.out.facts6
                  have hvk : valB (ms.take k) 0 < 4611686018427387904 := by
                    have h1 := valB_bound (ms.take k)
                    have h2 : 256 ^ (ms.take k).length ≤ 256 ^ 4 := Nat.pow_le_pow_right (by decide) (by rw [List.length_take]; omega)
                    omega
                  generalize valB (ms.take k) 0 = vk at *
                  clear hfin hlt
                  go_wp2_with fail
                  go_region
                  all_goals
                    go_wp2_with fail
                    refine bodyPost_ret (v := .tuple #[.agg #[.int .i64 1, .int .i64 tt, .int .i64 ff, .slice T m d, .int .i64 vk, .int .i64 k], .int .i64 ((v : Int) + k), .int .i64 0]) ?_ rfl ?_
                    · simp [results, Tryz.results31, go_sem, hFC] <;> rfl
                    · refine HFN.out _ _ (Or.inr ⟨by omega, T, d, ?_, ?_, ?_, ?_, ?_⟩)
                      · simp [hcells, HTL.out, ← HFIN.out]
                      · refine rd_of_own8 (base := w.heap.size + 2) (e := 5) (l := m) (c := d) ?_ (by simp [HTL.out])
                        (repeat (first | with_reducible exact HTT.out | with_reducible refine World.ownsRow.drew ?_ | (with_reducible refine ownsRow_setCell_below ?_ ?side _; case side => (first | omega | (simp; omega) | (simp; done))) | with_reducible refine World.ownsRow.alloc ?_ _))
                      · have := own_cap8 HTT.out; simp only [HTL.out]; exact this.1
                      · exact (own_cap8 HTT.out).2
                      · (repeat (first | with_reducible exact hbz | with_reducible refine Below.drew ?_ | (with_reducible refine Below.set4 ?_ ?side _ _ _ _; case side => (first | omega | (simp; omega) | (simp; done))) | (with_reducible refine Below.setCell ?_ ?side _; case side => (first | omega | (simp; omega) | (simp; done))) | (with_reducible refine Below.alloc ?_ ?side _; case side => (first | omega | (simp; omega) | (simp; done)))))

end Go.Proofs.YtbcagdjfegobnaaGreat
/- The contract of head.Decode, whole. -/
namespace Go.Proofs.YtbcagdjfegobnaaGreat
open Go.RowKit
set_option linter.unusedVariables false

/-- What Decode answers. -/
def HOut (r : HeadD × Nat × Int) (w : World) (e : Ending) (w' : World) : Prop := ∃ T d, e = .returned (.tuple #[.agg (hcells r.1 T d), .int .i64 r.2.1, .int .i64 r.2.2]) ∧ RdB w' T r.1.tok ∧ r.1.tok.length ≤ d ∧ d ≤ 9223372036854775807 ∧ Below w.heap.size w w'

theorem HBad.out {w : World} {E : Int} {e : Ending} {w' : World} (h : HBad w E e w') : HOut (hnil, 0, E) w e w' :=
  ⟨none, 0, h.1, Rd.nil, by simp [hnil], by decide, h.2⟩
theorem HGood.out {w : World} {H : HeadD} {u : Nat} {e : Ending} {w' : World} (h : HGood w H u e w') : HOut (H, u, 0) w e w' := h
theorem HTail.out {bs : List UInt8} {n k tt f u s : Nat} {t : List UInt8} {w : World} {e : Ending} {w' : World} (hn : bs.length = n) (h : HTail bs n k tt f t u s w e w') : HOut (htail bs k tt f t u s) w e w' := by
  unfold htail
  rw [hn]
  rcases h with ⟨h1, h2⟩ | ⟨h1, h2⟩
  · rw [if_pos h1]; exact h2.out
  · rw [if_neg (by omega)]; exact h2.out
theorem HLong.out {bs : List UInt8} {n k s : Nat} {w : World} {e : Ending} {w' : World} (hn : bs.length = n) (h3 : 3 ≤ n) (h : HLong bs n k (bs.getD 1 0).toNat (bs.getD 2 0).toNat s (decR (bs.drop 3)) w e w') : HOut (hlong bs k s) w e w' := by
  unfold hlong
  rw [hn, if_neg (by omega)]
  rcases h with ⟨h1, h2⟩ | ⟨h1, h3, h2⟩ | ⟨h1, h3, h4, h2⟩ | ⟨h1, h3, h4, h2⟩
  · rw [if_pos h1]; exact h2.out
  · rw [if_neg (by omega), if_pos h3]; exact h2.out
  · rw [if_neg (by omega), if_neg h3, if_pos h4]; exact h2.out
  · rw [if_neg (by omega), if_neg h3, if_neg h4]; exact h2.out hn

theorem hlong_few (bs : List UInt8) (k s : Nat) (h : bs.length < 3) : hlong bs k s = (hnil, 0, 4) := if_pos h
theorem hlong_three (bs : List UInt8) (k s : Nat) (h : bs.length = 3) : hlong bs k s = (hnil, 0, 4) := by
  unfold hlong
  rw [if_neg (by omega), List.drop_of_length_le (by omega)]
  rfl

theorem hDec_any (A : Option Addr) (bs : List UInt8) (n c : Nat) (w : World) (hn : bs.length = n) (h : RdB w A bs) (hc : n ≤ c) (hm : c ≤ 9223372036854775807) :
    Calls Tryz.prog 31 #[.slice A n c] w (HOut (hdec bs) w) := by
  unfold hdec
  rw [hn]
  by_cases h0 : n = 0
  · subst h0
    rw [if_pos rfl]
    exact (hDec_nil A c w).mono fun e w' h => h.out
  rw [if_neg h0]
  by_cases h1 : (bs.getD 0 0).toNat / 4 = 16
  · rw [if_pos h1]
    by_cases h2 : n < 2
    · rw [if_pos h2]
      obtain rfl : n = 1 := by omega
      exact (hDec_short1 A bs c w hn h hc hm _ rfl h1).mono fun e w' h => h.out
    · rw [if_neg h2]
      exact (hDec_short A bs n c w hn h hc hm (by omega) _ _ rfl h1 rfl).mono fun e w' h => h.out hn
  rw [if_neg h1]
  by_cases h2 : (bs.getD 0 0).toNat / 4 = 48
  · rw [if_pos h2]
    by_cases h3 : n < 3
    · rw [hlong_few bs _ _ (by omega)]
      exact (hDec_long0_few A bs n c w hn h hc hm (by omega) h3 _ _ rfl h2 rfl).mono fun e w' h => h.out
    · by_cases h4 : c = 3
      · rw [hlong_three bs _ _ (by omega)]
        exact (hDec_long0_three A bs n c w hn h hc hm (by omega) h4 _ _ rfl h2 rfl).mono fun e w' h => h.out
      · exact (hDec_long0 A bs n c w hn h hc hm (by omega) h4 _ rfl _ _ rfl h2 rfl).mono fun e w' h => h.out hn (by omega)
  rw [if_neg h2]
  by_cases h3 : (bs.getD 0 0).toNat = 240
  · rw [if_pos h3]
    by_cases h5 : n < 3
    · rw [hlong_few bs _ _ (by omega)]
      exact (hDec_long1_few A bs n c w hn h hc hm (by omega) h5 _ _ rfl h3 rfl).mono fun e w' h => h.out
    · by_cases h4 : c = 3
      · rw [hlong_three bs _ _ (by omega)]
        exact (hDec_long1_three A bs n c w hn h hc hm (by omega) h4 _ _ rfl h3 rfl).mono fun e w' h => h.out
      · exact (hDec_long1 A bs n c w hn h hc hm (by omega) h4 _ rfl _ _ rfl h3 rfl).mono fun e w' h => h.out hn (by omega)
  rw [if_neg h3]
  exact (hDec_none A bs n c w hn h hc hm (by omega) _ rfl h1 h2 h3).mono fun e w' h => h.out
end Go.Proofs.YtbcagdjfegobnaaGreat
