/- Texts of the proof, laid together: Gate4 PktBack. -/
import Derived.Test.YtbcagdjfegobnaaGreatC13
import Derived.Test.YtbcagdjfegobnaaGreatC29
import Derived.Test.YtbcagdjfegobnaaGreatC22
import Derived.Test.YtbcagdjfegobnaaGreatC28
/- Gates: words and their bytes; who greets: the contracts of eight, Word, hello. -/
namespace Go.Proofs.YtbcagdjfegobnaaGreat
open Go.ChangeShapes Go.WideShapes Go.ChangeAt Go.RowKit
set_option linter.unusedVariables false

set_option maxRecDepth 100000 in
set_option maxHeartbeats 1000000 in
theorem gEight_nat (n : Nat) (h1 : n < 18446744073709551616) (w : World) :
    Calls Tryz.prog 101 #[.int .u64 n] w fun e w' =>
      e = .returned (.slice (some ⟨w.heap.size, 0, none⟩) 8 8) ∧ Blk w' w.heap.size 5 (u8s (beB 8 n)).toArray ∧ Below w.heap.size w w' := by
  have hmk : ∀ W, (Instr.makeSlice 30 (.int .i64 8) (.int .i64 8)).run Tryz.prog W = .ok (.slice (some ⟨W.heap.size, 0, none⟩) 8 8) (W.alloc (.cells (madeCells #[.int .u8 0] 8) 5)) :=
    fun W => run_make_row' 30 5 (.int .u8 0) 1 Tryz.underlying30 u8_info8 rfl .i64 .i64 8 (by omega) (by omega) W
  have hB0 : Blk (w.alloc (.cells (madeCells #[.int .u8 0] 8) 5)) w.heap.size 5 (u8s ((beB 8 n).take 0 ++ List.replicate (8 - 0) 0)).toArray := by
    have := Blk.new w 5 (madeCells #[.int .u8 0] 8)
    rw [zeros_u8] at this ⊢
    simpa using this
  have hb0 : Below w.heap.size w (w.alloc (.cells (madeCells #[.int .u8 0] 8) 5)) := (Below.refl _ _).alloc (Nat.le_refl _) _
  have HB0 := Lib.hid hB0
  clear hB0
  go_enter Tryz.func101, Tryz.ntmps101
  go_wp2_with fail
  go_loopw [8] (fun i wr => ∃ k : Nat, k ≤ 8 ∧ i = .int .i64 k ∧ Blk wr w.heap.size 5 (u8s ((beB 8 n).take k ++ List.replicate (8 - k) 0)).toArray ∧ Below w.heap.size w wr) (fun i _ => 8 - (intOf i).toNat)
  case atStart => exact ⟨0, Nat.zero_le _, rfl, HB0.out, hb0⟩
  case round =>
    obtain ⟨k, hk, rfl, hB, hb⟩ := hrel
    clear hb0 hmk HB0
    by_cases hlt : k < 8
    · have hl : ((beB 8 n).take k ++ List.replicate (8 - k) 0).length = 8 := by simp [beB_length]; omega
      have hc : wr.cell? ⟨w.heap.size, k, none⟩ = some (.int .u8 ((((beB 8 n).take k ++ List.replicate (8 - k) 0).getD k 0).toNat : Int)) := by
        rw [hB.cell]; exact u8s_at _ _ (by omega)
      have hf := hB.frozen k
      have HB := Lib.hid hB
      clear hB hl
      go_wp2_with fail
      go_roundw
      case rel =>
        refine ⟨k + 1, by omega, by go_num, ?_, hb.setCell (Nat.le_refl _) _⟩
        have := HB.out.set_ k (.int .u8 (((beB 8 n).getD k 0).toNat : Int))
        rw [u8s_set, fill_set _ 8 k (beB_length _ _) hlt, ← eight_byte n k hlt] at this
        exact this
      case measure => simp [intOf]; omega
    · obtain rfl : k = 8 := by omega
      rw [List.take_of_length_le (by simp [beB_length])] at hB
      simp only [Nat.sub_self, List.replicate_zero, List.append_nil] at hB
      have HB := Lib.hid hB
      clear hB
      go_wp2_with fail
      go_ret
      exact ⟨rfl, HB.out, hb⟩

theorem gEight_any (x : Int) (h0 : 0 ≤ x) (h1 : x < 18446744073709551616) (w : World) :
    Calls Tryz.prog 101 #[.int .u64 x] w fun e w' =>
      e = .returned (.slice (some ⟨w.heap.size, 0, none⟩) 8 8) ∧ Blk w' w.heap.size 5 (u8s (beB 8 x.toNat)).toArray ∧ Below w.heap.size w w' := by
  have h := gEight_nat x.toNat (by omega) w
  rwa [show ((x.toNat : Nat) : Int) = x from by omega] at h
set_option maxRecDepth 100000 in
set_option maxHeartbeats 1000000 in
theorem cEight_nat (n : Nat) (h1 : n < 18446744073709551616) (w : World) :
    Calls Tryz.prog 74 #[.int .u64 n] w fun e w' =>
      e = .returned (.slice (some ⟨w.heap.size, 0, none⟩) 8 8) ∧ Blk w' w.heap.size 5 (u8s (beB 8 n)).toArray ∧ Below w.heap.size w w' := by
  have hmk : ∀ W, (Instr.makeSlice 30 (.int .i64 8) (.int .i64 8)).run Tryz.prog W = .ok (.slice (some ⟨W.heap.size, 0, none⟩) 8 8) (W.alloc (.cells (madeCells #[.int .u8 0] 8) 5)) :=
    fun W => run_make_row' 30 5 (.int .u8 0) 1 Tryz.underlying30 u8_info8 rfl .i64 .i64 8 (by omega) (by omega) W
  have hB0 : Blk (w.alloc (.cells (madeCells #[.int .u8 0] 8) 5)) w.heap.size 5 (u8s ((beB 8 n).take 0 ++ List.replicate (8 - 0) 0)).toArray := by
    have := Blk.new w 5 (madeCells #[.int .u8 0] 8)
    rw [zeros_u8] at this ⊢
    simpa using this
  have hb0 : Below w.heap.size w (w.alloc (.cells (madeCells #[.int .u8 0] 8) 5)) := (Below.refl _ _).alloc (Nat.le_refl _) _
  have HB0 := Lib.hid hB0
  clear hB0
  go_enter Tryz.func74, Tryz.ntmps74
  go_wp2_with fail
  go_loopw [8] (fun i wr => ∃ k : Nat, k ≤ 8 ∧ i = .int .i64 k ∧ Blk wr w.heap.size 5 (u8s ((beB 8 n).take k ++ List.replicate (8 - k) 0)).toArray ∧ Below w.heap.size w wr) (fun i _ => 8 - (intOf i).toNat)
  case atStart => exact ⟨0, Nat.zero_le _, rfl, HB0.out, hb0⟩
  case round =>
    obtain ⟨k, hk, rfl, hB, hb⟩ := hrel
    clear hb0 hmk HB0
    by_cases hlt : k < 8
    · have hl : ((beB 8 n).take k ++ List.replicate (8 - k) 0).length = 8 := by simp [beB_length]; omega
      have hc : wr.cell? ⟨w.heap.size, k, none⟩ = some (.int .u8 ((((beB 8 n).take k ++ List.replicate (8 - k) 0).getD k 0).toNat : Int)) := by
        rw [hB.cell]; exact u8s_at _ _ (by omega)
      have hf := hB.frozen k
      have HB := Lib.hid hB
      clear hB hl
      go_wp2_with fail
      go_roundw
      case rel =>
        refine ⟨k + 1, by omega, by go_num, ?_, hb.setCell (Nat.le_refl _) _⟩
        have := HB.out.set_ k (.int .u8 (((beB 8 n).getD k 0).toNat : Int))
        rw [u8s_set, fill_set _ 8 k (beB_length _ _) hlt, ← eight_byte n k hlt] at this
        exact this
      case measure => simp [intOf]; omega
    · obtain rfl : k = 8 := by omega
      rw [List.take_of_length_le (by simp [beB_length])] at hB
      simp only [Nat.sub_self, List.replicate_zero, List.append_nil] at hB
      have HB := Lib.hid hB
      clear hB
      go_wp2_with fail
      go_ret
      exact ⟨rfl, HB.out, hb⟩

theorem cEight_any (x : Int) (h0 : 0 ≤ x) (h1 : x < 18446744073709551616) (w : World) :
    Calls Tryz.prog 74 #[.int .u64 x] w fun e w' =>
      e = .returned (.slice (some ⟨w.heap.size, 0, none⟩) 8 8) ∧ Blk w' w.heap.size 5 (u8s (beB 8 x.toNat)).toArray ∧ Below w.heap.size w w' := by
  have h := cEight_nat x.toNat (by omega) w
  rwa [show ((x.toNat : Nat) : Int) = x from by omega] at h

theorem or_u64_nat (a b : Nat) (ha : a < 18446744073709551616) (hb : b < 18446744073709551616) : bits .or .u64 (a : Int) (b : Int) = ((a ||| b : Nat) : Int) := by
  have hx : a ||| b < 2 ^ 64 := Nat.or_lt_two_pow (by omega) (by omega)
  have h1 : (BitVec.ofInt 64 (a : Int)).toNat = a := by
    rw [BitVec.ofInt_natCast, BitVec.toNat_ofNat]; exact Nat.mod_eq_of_lt (by omega)
  have h2 : (BitVec.ofInt 64 (b : Int)).toNat = b := by
    rw [BitVec.ofInt_natCast, BitVec.toNat_ofNat]; exact Nat.mod_eq_of_lt (by omega)
  show IntKind.u64.wrap ((BitVec.ofInt 64 (a : Int) ||| BitVec.ofInt 64 (b : Int)).toNat : Int) = _
  rw [BitVec.toNat_or, h1, h2, IntKind.wrap_u64]
  omega
theorem or_byte64 (N c : Nat) (hN : N < 72057594037927936) (hc : c < 256) : bits .or .u64 ((N : Int) * 256) (c : Int) = ((N * 256 + c : Nat) : Int) := by
  have e : (N : Int) * 256 = ((N * 256 : Nat) : Int) := by omega
  rw [e, or_u64_nat _ _ (by omega) (by omega), nat_join 8 (N * 256) c (by omega) (by omega)]
theorem valB_take7 (bs : List UInt8) (k : Nat) (h : k < 8) : valB (bs.take k) 0 < 72057594037927936 := by
  have h1 := valB_lt (bs.take k) 0 1 (by decide)
  have hl : (bs.take k).length ≤ 7 := by rw [List.length_take]; omega
  have : 256 ^ (bs.take k).length ≤ 256 ^ 7 := Nat.pow_le_pow_right (by decide) hl
  omega

set_option maxRecDepth 100000 in
set_option maxHeartbeats 2000000 in
theorem word_8 (A : Option Addr) (bs : List UInt8) (c : Nat) (w : World) (hn : bs.length = 8) (hr : RdB w A bs) (hc : 8 ≤ c) (hm : c ≤ 9223372036854775807) :
    Calls Tryz.prog 109 #[.slice A 8 c] w fun e w' => e = .returned (.int .u64 (valB bs 0 : Nat)) ∧ w = w' := by
  obtain ⟨b, off, rfl, hcell⟩ := hr.cell (by omega)
  have HC := Lib.hid hcell
  have HN := Lib.hid hn
  have hc0 : ¬ c = 0 := by omega
  clear hcell hr hn
  go_enter Tryz.func109, Tryz.ntmps109
  go_wp2_with fail
  go_loop [3, 12] (fun s3 s12 => ∃ k : Nat, k ≤ 8 ∧ s12 = .int .i64 k ∧ s3 = .int .u64 (valB (bs.take k) 0 : Nat)) (fun _ s12 => 8 - (intOf s12).toNat)
  case atStart => exact ⟨0, Nat.zero_le _, rfl, rfl⟩
  case round =>
    obtain ⟨k, hk, rfl, rfl⟩ := hrel
    by_cases hlt : k < 8
    · have h1 := HC.out k (by rw [HN.out]; exact hlt)
      have h7 := valB_take7 bs k hlt
      have HS := Lib.hid (valB_take bs 0 k (by rw [HN.out]; exact hlt))
      generalize bs.getD k 0 = x at *
      generalize valB (bs.take k) 0 = N at *
      have h9 : (x.toNat : Int) < 256 := by have := x.toNat_lt; omega
      have HO := Lib.hid (or_byte64 N x.toNat h7 (by omega))
      have hNi : (N : Int) < 72057594037927936 := by omega
      have hw : IntKind.u64.wrap ((N : Int) * 256) = (N : Int) * 256 := by rw [IntKind.wrap_u64]; omega
      have hk8 : (k : Int) < 8 := by omega
      go_wp2_with fail
      go_round
      case rel => exact ⟨k + 1, by omega, by go_num, by rw [HS.out, ← HO.out]⟩
      case measure => simp [intOf]; omega
    · obtain rfl : k = 8 := by omega
      rw [List.take_of_length_le (by rw [HN.out]; exact Nat.le_refl _)]
      go_wp2_with fail
      go_ret
      exact ⟨rfl, rfl⟩

/-- Does a frame greet? -/
def greets (f : FrD) : Bool := f.kind == 6 && (f.off == 0 && f.data.length == 8)
/-- The word of who begins. -/
def helloF (fs : List FrD) : Nat × Bool := match fs.find? greets with
  | some f => (valB f.data 0, true)
  | none => (0, false)
theorem helloF_none {fs : List FrD} (h : fs.any greets = false) : helloF fs = (0, false) := by
  have : fs.find? greets = none := by
    rw [List.find?_eq_none]
    intro x hx
    have := List.any_eq_false.1 h x hx
    simpa using this
  simp [helloF, this]
theorem helloF_some {fs : List FrD} {k : Nat} (hk : k < fs.length) (h0 : (fs.take k).any greets = false) (h1 : greets (fs.getD k fnil) = true) : helloF fs = (valB (fs.getD k fnil).data 0, true) := by
  have : fs.find? greets = some (fs.getD k fnil) := by
    rw [List.find?_eq_some_iff_getElem]
    refine ⟨h1, k, hk, by simp [List.getD, hk], fun j hj => ?_⟩
    have := List.any_eq_false.1 h0 (fs[j]'(by omega)) (by
      rw [List.mem_take_iff_getElem]
      exact ⟨j, by omega, rfl⟩)
    simpa using this
  simp [helloF, this]

set_option maxRecDepth 100000 in
set_option maxHeartbeats 4000000 in
theorem hello_any (L : Option Addr) (m c : Nat) (xs : List FrM) (hm : xs.length = m) (hm100 : m ≤ 100) (hmc : m ≤ c) (hcm : c ≤ 9223372036854775807) (w : World) (hL : FrRd w L xs) :
    Calls Tryz.prog 94 #[.slice L m c] w fun e w' => e = .returned (.tuple #[.int .u64 ((helloF (xs.map (·.f))).1 : Nat), .bool (helloF (xs.map (·.f))).2]) ∧ Below w.heap.size w w' := by
  have HM := Lib.hid hm
  have HL := Lib.hid hL
  obtain ⟨R, hR⟩ : ∃ R, helloF (xs.map (·.f)) = R := ⟨_, rfl⟩
  rw [hR]
  have HR := Lib.hid hR
  clear hm hL hR
  go_enter Tryz.func94, Tryz.ntmps94
  go_wp2_with fail
  go_loopw [8] (fun s8 wr => ∃ k : Nat, k ≤ m ∧ s8 = .int .i64 k ∧ Hid (((xs.take k).map (·.f)).any greets = false) ∧ Below w.heap.size w wr) (fun s8 _ => m - (intOf s8).toNat)
  case atStart => exact ⟨0, Nat.zero_le _, rfl, by show _ = _; simp, Below.refl _ _⟩
  case round =>
    obtain ⟨k, hk, rfl, hno, hb⟩ := hrel
    by_cases hlt : k < m
    · have hkx : k < xs.length := by rw [HM.out]; exact hlt
      have hLr := HL.out.below hb
      obtain ⟨bl, ol, rfl, hcell⟩ := hLr.at_ (by omega)
      have hmem : xs.getD k fmn ∈ xs := by simp [List.getD, hkx]
      have hXr := hLr.2 _ hmem
      have cc0 := hcell k hkx
      have HG1 : Hid (greets (xs.getD k fmn).f = true → R = (valB (xs.getD k fmn).f.data 0, true)) := Lib.hid fun hg => by
        rw [← HR.out]
        have e : (xs.map (·.f)).getD k fnil = (xs.getD k fmn).f := by simp [List.getD, hkx]
        rw [← e] at hg ⊢
        exact helloF_some (by simpa using hkx) (by rw [← List.map_take]; exact hno.out) hg
      have HG2 : Hid (greets (xs.getD k fmn).f = false → ((xs.take (k + 1)).map (·.f)).any greets = false) := Lib.hid fun hg => by
        rw [takeD xs k fmn hkx, List.map_append, List.any_append, hno.out]
        simpa using hg
      generalize xs.getD k fmn = x at *
      obtain ⟨f, xA, xc, xB, xd⟩ := x
      have p0 := cc0 0 _ (by decide) rfl
      have p1 := cc0 1 _ (by decide) rfl
      have p2 := cc0 2 _ (by decide) rfl
      have p3 := cc0 3 _ (by decide) rfl
      have p4 := cc0 4 _ (by decide) rfl
      have p5 := cc0 5 _ (by decide) rfl
      have p6 := cc0 6 _ (by decide) rfl
      have HXR := Lib.hid hXr
      simp only [Nat.add_zero] at p0
      have hkm : (k : Int) < (m : Int) := by omega
      have HB := Lib.hid hb
      clear hcell cc0 hXr hLr hmem hkx hb
      go_upto_region 4 with (fail)
      obtain ⟨gF, hgF⟩ : ∃ q, wr.heap.size = q := ⟨_, rfl⟩
      refine wp_world (fun w' => Blk w' gF 68 #[.int .i64 f.kind, .int .i64 f.id, .int .i64 f.off, .bool f.fin, .int .i64 f.code, .slice xA f.rngs.length xc, .slice xB f.data.length xd] ∧ FrX w' ⟨f, xA, xc, xB, xd⟩ ∧ Below w.heap.size w w') ⟨Blk.newR hgF, HXR.out.below ((Below.refl _ _).alloc (Nat.le_refl _) _), HB.out.alloc HB.out.size _⟩ ?_
      try rw [hgF]
      clear p0 p1 p2 p3 p4 p5 p6 HXR HB hgF
      rintro w5 ⟨hF, hX5, hb5⟩
      have FF := hF.c7
      have hdn : f.data.length ≤ xd := hX5.2.2.2.2.1
      have hdm : xd ≤ 9223372036854775807 := hX5.2.2.2.2.2
      have HX5 := Lib.hid hX5
      clear hF hX5
      obtain ⟨fk, fi, fo, ff, fc, fr, fd⟩ := f
      dsimp only at *
      by_cases h1 : fk = 6
      · subst h1
        by_cases h2 : fo = 0
        · subst h2
          by_cases h3 : fd.length = 8
          · have hR1 := HG1.out (by simp [greets, h3])
            subst hR1
            rw [h3] at FF hdn
            have HW := Lib.hid (word_8 xB fd xd w5 h3 HX5.out.2.1 hdn hdm)
            clear h3 HG1 HG2 HR
            go_wp2_with fail
            refine HW.out.mono ?_
            rintro e w' ⟨rfl, rfl⟩
            go_wp2_with fail
            go_ret2
            exact ⟨rfl, hb5⟩
          · have HE := Lib.hid (HG2.out (by simp [greets, h3]))
            have h3b : ((fd.length : Int) == 8) = false := by rw [beq_eq_false_iff_ne]; omega
            have h3c : ¬ (fd.length : Int) = 8 := by omega
            clear h3 HG1 HG2
            go_wp2_with fail
            go_roundw
            case rel => exact ⟨k + 1, by omega, by go_num, HE, hb5⟩
            case measure => simp [intOf]; omega
        · have HE := Lib.hid (HG2.out (by simp [greets, h2]))
          have h2b : ((fo : Int) == 0) = false := by rw [beq_eq_false_iff_ne]; omega
          have h2c : ¬ (fo : Int) = 0 := by omega
          clear h2 HG1 HG2
          go_wp2_with fail
          go_roundw
          case rel => exact ⟨k + 1, by omega, by go_num, HE, hb5⟩
          case measure => simp [intOf]; omega
      · have HE := Lib.hid (HG2.out (by simp [greets, h1]))
        have h1b : ((fk : Int) == 6) = false := by rw [beq_eq_false_iff_ne]; omega
        have h1c : ¬ (fk : Int) = 6 := by omega
        clear h1 HG1 HG2
        go_wp2_with fail
        go_roundw
        case rel => exact ⟨k + 1, by omega, by go_num, HE, hb5⟩
        case measure => simp [intOf]; omega
    · obtain rfl : k = m := by omega
      have hR1 := HR.out
      rw [helloF_none (by have := hno.out; rwa [List.take_of_length_le (by rw [HM.out]; exact Nat.le_refl _)] at this)] at hR1
      subst hR1
      go_wp2_with fail
      go_ret2
      exact ⟨rfl, hb⟩
end Go.Proofs.YtbcagdjfegobnaaGreat
/- Plain: a packet is unpacked as_v it was packed; the packets of who greets; how long they are. -/
namespace Go.Proofs.YtbcagdjfegobnaaGreat
open Go.RowKit
set_option linter.unusedVariables false

theorem unpack_pkt (key : Int) (h : HeadD) (n : Nat) (a top : Int) (ha : -1 ≤ a) (han : a < n) (hat : a ≤ top) (htn : top < n) (hd : n - a ≤ 1048577) (hn : n ≤ 2305843009213693952) (fs : List FrD) (ok : ∀ f ∈ fs, FrOk f) (h12 : fs.length ≤ 12) (K : Nat) (hK : cutK (n - a).toNat = K) :
    unpackF key K (n % 256 ^ K) (pktHd h K n).length top (pktB key h K n fs) = ((n : Int), fs, 0) := by
  have hK4 := cutK_le (n - a).toNat
  rw [hK] at hK4
  have hv : valB (beB K n) 0 = n % 256 ^ K := by
    have := valB_all K n
    rwa [List.take_of_length_le (by rw [beB_length]; exact Nat.le_refl _)] at this
  have hw : wholeN (top + 1) (256 ^ K : Nat) ((n % 256 ^ K : Nat) : Int) = n := by
    have := whole_back n a top K (by omega) (by omega) ha han hat htn hd hK
    rw [show ((n : Int)).toNat = n from rfl, hv] at this
    exact this
  obtain ⟨hp, ho⟩ := open_seal key n (pktHd h K n) (fs.flatMap fenc)
  have ht : (pktB key h K n fs).take (pktHd h K n).length = pktHd h K n := take_app _ _ _ rfl
  have hdp : (pktB key h K n fs).drop (pktHd h K n).length = sealB key n (pktHd h K n) (fs.flatMap fenc) := drop_app _ _ _ rfl
  have hl : (pktB key h K n fs).length = (pktHd h K n).length + ((fs.flatMap fenc).length + 8) := by unfold pktB; rw [List.length_append, sealB_length]
  unfold unpackF
  rw [if_neg (by omega), if_neg (by omega), hw, ht, hdp, ho, hp, if_neg (by simp), fall_back fs ok, if_pos h12, if_neg (by simp)]
theorem hdec_pkt (key : Int) (h : HeadD) (hh : PkHead h) (n K : Nat) (h1 : 1 ≤ K) (h4 : K ≤ 4) (fs : List FrD) : hdec (pktB key h K n fs) = (pktHead h K n, (pktHd h K n).length, 0) := hdec_back _ (hh.ok h1 h4) _

/-- The frame of who greets with a word. -/
def helloFr (x : Nat) : FrD := ⟨6, 0, 0, false, 0, [], beB 8 x⟩
theorem helloFr_ok (x : Nat) : FrOk (helloFr x) where
  kind := rfl
  len := by simp [helloFr, beB_length]
  many := by simp [helloFr]
  id := by simp [helloFr]
  noId := fun _ => rfl
  off := by simp [helloFr]
  noOff := fun _ => rfl
  code := by simp [helloFr]
  noCode := fun _ => rfl
  far := fun _ => by simp [helloFr, beB_length]
  noData := fun h => by simp [helloFr, pData] at h
  noFin := fun _ => rfl
  ack := by simp [helloFr]
  rngs := trivial
theorem helloF_hello (x : Nat) (h : x < 18446744073709551616) : helloF [helloFr x] = (x, true) := by
  have : greets (helloFr x) = true := by simp [greets, helloFr, beB_length]
  have hv : valB (beB 8 x) 0 = x := by have := valB_beB 8 x 0 (by omega); simpa using this
  simp [helloF, this]
  simp [helloFr, hv]
theorem helloFr_len (x : Nat) : (fenc (helloFr x)).length = 11 := by
  have e0 : (encB 0).length = 1 := by decide
  have e6 : (encB 6).length = 1 := by decide
  have e8 : (encB 8).length = 1 := by decide
  simp [fenc, helloFr, fkind, encRng, encIf, encC, encD, pId, pOff, pCode, pWord, pData, beB_length, e0, e6, e8]
/-- The first packet: of who greets (to 0) and of who answers. -/
def greetB (key : Int) (t f : Nat) (tok : List UInt8) (x : Nat) : List UInt8 := pktB key ⟨0, t, f, tok, 0, 0⟩ 1 0 [helloFr x]
theorem greet_head (t f : Nat) (tok : List UInt8) (ht : t ≤ 255) (hf : f ≤ 255) (hl : tok.length ≤ 120) : PkHead ⟨0, t, f, tok, 0, 0⟩ := ⟨.inl rfl, hl, ht, hf, fun h => by cases h⟩
theorem encB_len1 (n : Nat) (h : n ≤ 63) : (encB n).length = 1 := by rw [encB_length]; unfold sizeI; rw [if_neg (by omega), if_pos (by omega)]; rfl
theorem greetB_len (key : Int) (t f : Nat) (tok : List UInt8) (x : Nat) (h : tok.length ≤ 63) : (greetB key t f tok x).length = 24 + tok.length := by
  unfold greetB pktB pktHd henc hfront pktHead
  simp [sealB_length, beB_length, helloFr_len, encB_len1 _ h]
  omega
theorem greetB_dec (key : Int) (t f : Nat) (tok : List UInt8) (x : Nat) (ht : t ≤ 255) (hf : f ≤ 255) (hl : tok.length ≤ 120) : hdec (greetB key t f tok x) = (⟨0, t, f, tok, 0, 1⟩, (pktHd ⟨0, t, f, tok, 0, 0⟩ 1 0).length, 0) :=
  hdec_pkt key _ (greet_head t f tok ht hf hl) 0 1 (by decide) (by decide) _
theorem greetB_unpack (key : Int) (t f : Nat) (tok : List UInt8) (x : Nat) : unpackF key 1 0 (pktHd ⟨0, t, f, tok, 0, 0⟩ 1 0).length (-1) (greetB key t f tok x) = (0, [helloFr x], 0) :=
  unpack_pkt key _ 0 (-1) (-1) (by decide) (by decide) (by decide) (by decide) (by decide) (by decide) [helloFr x] (fun f hf => by rw [List.mem_singleton.1 hf]; exact helloFr_ok x) (by simp) 1 (by decide)
/-- A token that is told. -/
def retryB (t : Nat) (tok : List UInt8) : List UInt8 := henc ⟨1, t, 0, tok, 0, 0⟩
end Go.Proofs.YtbcagdjfegobnaaGreat
