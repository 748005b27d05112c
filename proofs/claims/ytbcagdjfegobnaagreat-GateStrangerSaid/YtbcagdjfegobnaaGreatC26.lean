/- Texts of the proof, laid together: PacketWalk. -/
import Derived.Test.YtbcagdjfegobnaaGreatC22
import Derived.Test.YtbcagdjfegobnaaGreatC19
import Derived.Test.YtbcagdjfegobnaaGreatC24
import Derived.Test.YtbcagdjfegobnaaGreatC25
import Derived.Test.YtbcagdjfegobnaaGreatC09
/- Packets: their bytes (plain); the contract of gate.Packet, where its head and frames may be. -/
namespace Go.Proofs.YtbcagdjfegobnaaGreat
open Go.ChangeShapes Go.WideShapes Go.ChangeAt Go.RowKit
set_option linter.unusedVariables false

theorem encB_leP (n : Nat) : (encB n).length ≤ 8 := by
  rw [encB_length]; unfold sizeI; split <;> (try split) <;> (try split) <;> (try split) <;> decide
theorem encRs_lenP (p : Int) (l : List Rng) : (encRs p l).length ≤ 16 * l.length := by
  induction l generalizing p with
  | nil => simp [encRs]
  | cons x l ih =>
    have h1 := encB_leP (p - x.2 - 2).toNat
    have h2 := encB_leP (x.2 - x.1).toNat
    have h3 := ih x.1
    simp only [encRs, List.length_append, List.length_cons]; omega
theorem encRng_lenP (l : List Rng) : (encRng l).length ≤ 24 + 16 * l.length := by
  cases l with
  | nil => simp [encRng]
  | cons x l =>
    have h1 := encB_leP x.2.toNat
    have h2 := encB_leP l.length
    have h3 := encB_leP (x.2 - x.1).toNat
    have h4 := encRs_lenP x.1 l
    simp only [encRng, List.length_append, List.length_cons]; omega
theorem fenc_lenP (f : FrD) (ok : FrOk f) : (fenc f).length ≤ 300 := by
  have h1 := encB_leP (fkind f)
  have h2 := encRng_lenP f.rngs
  have h3 : (encIf (pId f.kind) f.id).length ≤ 8 := by unfold encIf; split; exact encB_leP _; simp
  have h4 : (encIf (pOff f.kind) f.off).length ≤ 8 := by unfold encIf; split; exact encB_leP _; simp
  have h5 : (encC (pWord f.kind) (pCode f.kind) f.code).length ≤ 8 := by
    unfold encC encIf; split
    · rw [beB_length]; exact Nat.le_refl _
    · split; exact encB_leP _; simp
  have h6 : (encD (pData f.kind) f.data).length ≤ 8 + f.data.length := by
    unfold encD; split
    · have := encB_leP f.data.length; rw [List.length_append]; omega
    · simp
  have := ok.many
  have := ok.len
  unfold fenc
  simp only [List.length_append]; omega

theorem henc_len (h : HeadD) (ok : HeadOk h) : (henc h).length ≤ 140 := by
  obtain ⟨h1, h2, h3, h4, h5, h6, h7, h8⟩ := ok
  have hs : h.size ≤ 4 := by
    by_cases e : h.kind = 1
    · have := (h5 e).1; omega
    · exact (h6 e).2
  have he := encB_leP h.tok.length
  unfold henc hfront
  by_cases e : h.kind = 2
  · rw [if_pos e]; simp only [List.length_append, List.length_cons, List.length_nil, beB_length]; omega
  · rw [if_neg e]; simp only [List.length_append, List.length_cons, List.length_nil, beB_length]; omega
/-- The head of a packet whose number has K bytes. -/
def pktHead (h : HeadD) (K n : Nat) : HeadD := ⟨h.kind, h.to, h.from_, h.tok, n % 256 ^ K, K⟩
def pktHd (h : HeadD) (K n : Nat) : List UInt8 := henc (pktHead h K n)
/-- The bytes of a packet. -/
def pktB (key : Int) (h : HeadD) (K n : Nat) (fs : List FrD) : List UInt8 := pktHd h K n ++ sealB key n (pktHd h K n) (fs.flatMap fenc)
/-- A head that a packet may have, but for its number. -/
structure PkHead (h : HeadD) : Prop where
  kind : h.kind = 0 ∨ h.kind = 2
  tok : h.tok.length ≤ 120
  to_ : h.to ≤ 255
  from_ : h.from_ ≤ 255
  short : h.kind = 2 → h.from_ = 0 ∧ h.tok = []
theorem cutK_le (d : Nat) : 1 ≤ cutK d ∧ cutK d ≤ 4 := by
  rcases cutK_cases d with ⟨e, _⟩ | ⟨e, _⟩ | ⟨e, _⟩ | ⟨e, _⟩ <;> rw [e] <;> decide
theorem PkHead.ok {h : HeadD} (hh : PkHead h) {K n : Nat} (h1 : 1 ≤ K) (h4 : K ≤ 4) : HeadOk (pktHead h K n) := by
  refine ⟨?_, hh.tok, hh.to_, hh.from_, ?_, fun _ => ⟨h1, h4⟩, Nat.mod_lt _ (Nat.pow_pos (by decide)), hh.short⟩
  · rcases hh.kind with e | e <;> simp [pktHead, e]
  · intro e
    rcases hh.kind with e' | e' <;> simp [pktHead, e'] at e
theorem valB_take_mod (K n j : Nat) (h : j < K) : valB ((beB K n).take (j + 1)) 0 = valB ((beB K n).take j) 0 * 256 + ((beB K n).getD j 0).toNat := valB_take _ _ _ (by rw [beB_length]; exact h)
theorem valB_take_ltP (K n j : Nat) (h : K ≤ 4) : valB ((beB K n).take j) 0 < 4294967296 := by
  have := valB_lt ((beB K n).take j) 0 1 (by decide)
  have hl : ((beB K n).take j).length ≤ 4 := by rw [List.length_take, beB_length]; omega
  have : 256 ^ ((beB K n).take j).length ≤ 256 ^ 4 := Nat.pow_le_pow_right (by decide) hl
  omega
theorem valB_all (K n : Nat) : valB ((beB K n).take K) 0 = n % 256 ^ K := by
  rw [List.take_of_length_le (by rw [beB_length]; exact Nat.le_refl _), beB_low, valB_beB _ _ _ (Nat.mod_lt _ (Nat.pow_pos (by decide)))]
  omega
theorem takeF (l : List FrM) (k : Nat) (h : k < l.length) : ((l.take (k + 1)).map (·.f)).flatMap fenc = ((l.take k).map (·.f)).flatMap fenc ++ fenc (l.getD k fmn).f := by
  rw [takeD l k fmn h, List.map_append, List.flatMap_append]; simp

/-- What Packet answers. -/
def PktOut (w : World) (B : List UInt8) (e : Ending) (w' : World) : Prop :=
  (400 < B.length ∧ e = .returned (.tuple #[.slice none 0 0, .int .i64 1]) ∨ B.length ≤ 400 ∧ ∃ A k c, e = .returned (.tuple #[.slice A k c, .int .i64 0]) ∧ B.length = k ∧ OwnB w' w.heap.size 5 A c B) ∧ Below w.heap.size w w'

set_option maxRecDepth 100000 in
set_option maxHeartbeats 4000000 in
theorem packet_any (key : Int) (hk0 : 0 ≤ key) (hk1 : key < 18446744073709551616) (h : HeadD) (hh : PkHead h) (T : Option Addr) (tn tc : Nat) (htn : h.tok.length = tn) (nu si : Int) (n : Nat) (h1 : (n : Int) ≤ 4611686018427387903) (a : Int) (ha : -1 ≤ a) (han : a < n) (hd : n - a ≤ 2147483648)
    (L : Option Addr) (m c : Nat) (xs : List FrM) (hm : xs.length = m) (hm13 : m ≤ 100) (hmc : m ≤ c) (hcm : c ≤ 9223372036854775807) (hx : ∀ x ∈ xs, FrOk x.f) (w : World) (hT : RdB w T h.tok) (hL : FrRd w L xs) :
    Calls Tryz.prog 23 #[.int .u64 key, .agg #[.int .i64 h.kind, .int .i64 h.to, .int .i64 h.from_, .slice T tn tc, .int .i64 nu, .int .i64 si], .int .i64 n, .int .i64 a, .slice L m c] w
      (PktOut w (pktB key h (cutK (n - a).toNat) n (xs.map (·.f)))) := by
  obtain ⟨K, hK⟩ : ∃ K, cutK (n - a).toNat = K := ⟨_, rfl⟩
  have hK4 := cutK_le (n - a).toNat
  rw [hK] at hK4 ⊢
  obtain ⟨hK1, hK4⟩ := hK4
  have HCUT := Lib.hid (fun W => cut_any n a h1 ha han hd W)
  rw [hK] at HCUT
  have HHO := Lib.hid (hh.ok (n := n) hK1 hK4)
  have HTN := Lib.hid htn
  have HM := Lib.hid hm
  have HX := Lib.hid hx
  have HT := Lib.hid hT
  have HL := Lib.hid hL
  clear hh htn hm hx hT hL hK
  go_enter Tryz.func23, Tryz.ntmps23
  go_upto_region 1 with (fail)
  refine wp_world (fun w' => Blk w' w.heap.size 61 #[.int .i64 h.kind, .int .i64 h.to, .int .i64 h.from_, .slice T tn tc, .int .i64 nu, .int .i64 si] ∧ Below w.heap.size w w') ⟨Blk.new _ _ _, (Below.refl _ _).alloc (Nat.le_refl _) _⟩ ?_
  rintro w1 ⟨hH, hb1⟩
  have hg := hH.lt
  go_wp2_with fail
  refine (HCUT.out w1).mono ?_
  rintro e w2 ⟨C, cc, rfl, hO, hb2⟩
  have hH := hH.carry hb2
  have hb := hb1.trans (hb2.mono hb1.size)
  have HO := Lib.hid hO.x
  have FH := hH.facts6
  clear hb1 hb2 hO HCUT
  have hKi : (K : Int) ≤ 4 := by omega
  go_upto_region 5 with (fail)
  refine wp_world (fun w' => Blk w' w.heap.size 61 #[.int .i64 h.kind, .int .i64 h.to, .int .i64 h.from_, .slice T tn tc, .int .i64 ((0 : Nat) : Int), .int .i64 K] ∧ OwnX u8c 1 w' w1.heap.size 5 C cc (beB K n) ∧ Below w.heap.size w w')
    ⟨((hH.set_ 5 _).set_ 4 _).as (by rfl), (HO.out.set_below hg _).set_below hg _, by (repeat (first | with_reducible exact hb | with_reducible refine Below.drew ?_ | (with_reducible refine Below.set4 ?_ ?side _ _ _ _; case side => (first | omega | (simp; omega) | (simp; done))) | (with_reducible refine Below.setCell ?_ ?side _; case side => (first | omega | (simp; omega) | (simp; done))) | (with_reducible refine Below.alloc ?_ ?side _; case side => (first | omega | (simp; omega) | (simp; done)))))⟩ ?_
  clear hH hb HO FH
  rintro w3 ⟨hH, hO, hb3⟩
  have HO := Lib.hid hO
  clear hO
  -- [[loop1
  go_wp2_with fail
  go_loopw [38] (fun s38 wr => ∃ j : Nat, j ≤ K ∧ s38 = .int .i64 j ∧ Blk wr w.heap.size 61 #[.int .i64 h.kind, .int .i64 h.to, .int .i64 h.from_, .slice T tn tc, .int .i64 (valB ((beB K n).take j) 0 : Nat), .int .i64 K] ∧ OwnX u8c 1 wr w1.heap.size 5 C cc (beB K n) ∧ Below w.heap.size w wr) (fun s38 _ => K - (intOf s38).toNat)
  case atStart => exact ⟨0, Nat.zero_le _, rfl, hH, HO.out, hb3⟩
  case round =>
    obtain ⟨j, hj, rfl, hHr, hOr, hbr⟩ := hrel
    clear hH HO
    by_cases hlt : j < K
    -- [[round1
    · obtain ⟨bc, oc, rfl, hcell⟩ := hOr.rd.b.cell (by rw [beB_length]; omega)
      have c0 := hcell j (by rw [beB_length]; omega)
      have HS := Lib.hid (valB_take_mod K n j hlt)
      have h10 := valB_take_ltP K n j hK4
      have HOr := Lib.hid hOr
      have hblt : w.heap.size < w1.heap.size := hg
      generalize (beB K n).getD j 0 = b1 at *
      generalize valB ((beB K n).take j) 0 = N at *
      have h9 : (b1.toNat : Int) < 256 := by have := b1.toNat_lt; omega
      have HOB := Lib.hid (or_byte N b1.toNat (by omega) (by omega))
      have FH := hHr.facts6
      have HHr := Lib.hid hHr
      have HBr := Lib.hid hbr
      clear hcell hOr hHr hbr
      have hNN : (N : Int) < 4294967296 := by omega
      go_wp2_with fail
      go_roundw
      case rel => exact ⟨j + 1, by omega, by go_num, (HHr.out.set_ 4 _).as (by rw [HOB.out, HS.out]; rfl), HOr.out.set_below hg _, HBr.out.setCell (p := ⟨w.heap.size, 4, none⟩) (Nat.le_refl _) _⟩
      case measure => simp [intOf]; omega
      -- ]]round1
    · obtain rfl : j = K := by omega
      rw [valB_all] at hHr
      have hH := hHr
      have HO := Lib.hid hOr
      have HT3 := Lib.hid (HT.out.below hbr)
      have HL3 := Lib.hid (HL.out.below hbr)
      have hb3 := hbr
      clear hHr hOr hbr
      obtain ⟨Hb, hHb⟩ : ∃ b, henc (pktHead h j n) = b := ⟨_, rfl⟩
      have HENC := Lib.hid (hEnc_any (pktHead h j n) HHO.out T tc wr HT3.out)
      rw [hHb] at HENC
      simp only [hcells, pktHead, HTN.out] at HENC
      have HHB := Lib.hid hHb
      clear hHb
      have FH := hH.facts6
      have hgr := hH.lt
      clear hlt hj
      go_wp2_with fail
      refine HENC.out.mono ?_
      rintro e w4 ⟨A4, k4, c4, rfl, hk4, hO4, hkc4, hc4m, hb4⟩
      have HL4 := Lib.hid (HL3.out.below hb4)
      have HK4 := Lib.hid hk4
      have HO4 := Lib.hid hO4.x
      have HB4 := Lib.hid (hb3.trans (hb4.mono hb3.size))
      have hrs : wr.heap.size ≤ w4.heap.size := hb4.size
      have hws : w.heap.size ≤ wr.heap.size := hb3.size
      have hk4b : k4 ≤ 140 := by
        rw [← HK4.out, ← HHB.out]; exact henc_len _ HHO.out
      clear FH hH hk4 hO4 hb4 HENC HL3 HT3 HO hb3
      -- [[loop2
      go_wp2_with fail
      go_loopw [17, 60] (fun s17 s60 wr => ∃ (i : Nat) (Bo : Option Addr) (nb cb : Nat), i ≤ m ∧ s60 = .int .i64 i ∧ s17 = .slice Bo nb cb ∧ (((xs.take i).map (·.f)).flatMap fenc).length = nb ∧ nb ≤ 300 * i ∧ OwnX u8c 1 wr w4.heap.size 5 Bo cb (((xs.take i).map (·.f)).flatMap fenc) ∧ Below w4.heap.size w4 wr) (fun _ s60 _ => m - (intOf s60).toNat)
      case atStart => exact ⟨0, none, 0, 0, Nat.zero_le _, rfl, rfl, rfl, Nat.le_refl _, OwnX.nil _ _ _, Below.refl _ _⟩
      case round =>
        obtain ⟨i, Bo, nb, cb, hi, rfl, rfl, hnb, hnb3, hBo, hbr⟩ := hrel
        have HNB := Lib.hid hnb
        have HBO := Lib.hid hBo
        clear hnb hBo
        by_cases hlt : i < m
        -- [[round2
        · have hix : i < xs.length := by rw [HM.out]; exact hlt
          have hmem : xs.getD i fmn ∈ xs := by simp [List.getD, hix]
          have hok := HX.out _ hmem
          have hLr := HL4.out.below hbr
          obtain ⟨bl, ol, rfl, hcell⟩ := hLr.at_ (by omega)
          have hXr := hLr.2 _ hmem
          have cc0 := hcell i hix
          have HTK := Lib.hid (takeF xs i hix)
          have HLL := Lib.hid hLr
          generalize xs.getD i fmn = x at *
          obtain ⟨f, xA, xc, xB, xd⟩ := x
          have p0 := cc0 0 _ (by decide) rfl
          have p1 := cc0 1 _ (by decide) rfl
          have p2 := cc0 2 _ (by decide) rfl
          have p3 := cc0 3 _ (by decide) rfl
          have p4 := cc0 4 _ (by decide) rfl
          have p5 := cc0 5 _ (by decide) rfl
          have p6 := cc0 6 _ (by decide) rfl
          have HXR := Lib.hid hXr
          have HOK := Lib.hid hok
          have HBR := Lib.hid hbr
          simp only [Nat.add_zero] at p0
          have hwr := hbr.size
          have him : (i : Int) < (m : Int) := by omega
          clear hcell cc0 hXr hok hbr hLr hmem hix
          go_upto_region 17 with (fail)
          obtain ⟨gF, hgF⟩ : ∃ q, wr.heap.size = q := ⟨_, rfl⟩
          refine wp_world (fun w' => Blk w' gF 68 #[.int .i64 f.kind, .int .i64 f.id, .int .i64 f.off, .bool f.fin, .int .i64 f.code, .slice xA f.rngs.length xc, .slice xB f.data.length xd] ∧ FrX w' ⟨f, xA, xc, xB, xd⟩ ∧ OwnX u8c 1 w' w4.heap.size 5 Bo cb (((xs.take i).map (·.f)).flatMap fenc) ∧ Below w4.heap.size w4 w') ⟨Blk.newF hgF, HXR.out.below ((Below.refl _ _).alloc (Nat.le_refl _) _), HBO.out.alloc _, HBR.out.alloc hwr _⟩ ?_
          try rw [hgF]
          clear p0 p1 p2 p3 p4 p5 p6 HXR HBO HBR hgF
          rintro w5 ⟨hF, hX5, hB5, hb5⟩
          have FF := hF.c7
          have HE := Lib.hid (fEnc_any f HOK.out xA xc xB xd w5 hX5.1 hX5.2.1 hX5.2.2.1 hX5.2.2.2.1)
          simp only [frcells] at HE
          have HB5 := Lib.hid hB5
          have HBB := Lib.hid hb5
          have h45 := hb5.size
          clear hF hX5 hB5 hb5
          go_wp2_with fail
          refine HE.out.mono ?_
          rintro e w6 ⟨A6, k6, c6, rfl, hk6, hO6, hkc6, hc6m, hb6⟩
          have hk6b : k6 ≤ 300 := by rw [← hk6]; exact fenc_lenP f HOK.out
          have HK6 := Lib.hid hk6
          have HR6 := Lib.hid hO6.rd.x
          have HB6 := Lib.hid (HB5.out.carry hb6)
          have HBB6 := Lib.hid (HBB.out.trans (hb6.mono h45))
          have h46 := HBB6.out.size
          clear hk6 hO6 hb6 FF HE HB5 HBB
          go_wp2_with (at_builtin
                       refine wpList_appL u8c 1 u8c_one _ rfl (.tmp 72) (.tmp 73) _ rfl w4.heap.size 5 _ 1 Tryz.underlying30 u8_infoQ rfl (by decide) (by decide) Bo nb cb _ rfl HNB.out HB6.out A6 k6 c6 (fenc f) rfl HK6.out HR6.out _ HTK.out.symm (nb + k6) rfl (by omega) h46 ?_
                       intro A7 c7 w7 hO7 hc7 hm7 hb7 hg7 ha7)
          go_roundw
          case rel => exact ⟨i + 1, A7, nb + k6, c7, by omega, by go_num, rfl, by rw [HTK.out, List.length_append, HNB.out, HK6.out], by omega, hO7, HBB6.out.trans hb7⟩
          case measure => simp [intOf]; omega
          -- ]]round2
        -- [[end2
        · obtain rfl : i = m := by omega
          rw [List.take_of_length_le (by rw [HM.out]; exact Nat.le_refl _)] at HNB HBO
          have HOb := Lib.hid (HO4.out.carry hbr)
          have hbs := hbr.size
          have hbt := HB4.out.trans (hbr.mono HB4.out.size)
          have HBT := Lib.hid hbt
          have HTX := Lib.hid (HBO.out.rd.b)
          have HHX := Lib.hid (HOb.out.rd.b)
          have hpk : pktB key h j n (xs.map (·.f)) = Hb ++ sealB key n Hb ((xs.map (·.f)).flatMap fenc) := by unfold pktB pktHd; rw [HHB.out]
          have HPK := Lib.hid hpk
          have HSL : Hid ((sealB key n Hb ((xs.map (·.f)).flatMap fenc)).length = nb + 8) := by
            show _ = _
            unfold sealB
            rw [List.length_append, turnB_length, tagB_length, HNB.out]
          have HSE := Lib.hid (seal_any key n hk0 hk1 A4 Bo Hb ((xs.map (·.f)).flatMap fenc) k4 c4 nb cb HK4.out HNB.out wr HHX.out HTX.out (by omega) (by omega) (nb + 8) rfl)
          clear hbr hbt hpk
          go_wp2_with fail
          refine HSE.out.mono ?_
          rintro e w5 ⟨A5, c5, rfl, hO5, hc5, hb5⟩
          have HR5 := Lib.hid hO5.rd.x
          have HO5 := Lib.hid (HOb.out.carry hb5)
          have HB5 := Lib.hid (HBT.out.trans (hb5.mono HBT.out.size))
          have h5s := hb5.size
          clear hO5 hb5 HSE
          go_wp2_with (at_builtin
                       refine wpList_appL u8c 1 u8c_one _ rfl (.tmp 76) (.tmp 81) _ rfl _ 5 _ 1 Tryz.underlying30 u8_infoQ rfl (by decide) (by decide) A4 k4 c4 _ rfl HK4.out HO5.out A5 (nb + 8) c5 _ rfl HSL.out HR5.out _ HPK.out.symm (k4 + (nb + 8)) rfl (by omega) (by omega) ?_
                       intro A7 c7 w7 hO7 hc7 hm7 hb7 hg7 ha7)
          all_goals
            have HLEN : Hid ((pktB key h j n (xs.map (·.f))).length = k4 + (nb + 8)) := by show _ = _; rw [HPK.out, List.length_append, HK4.out, HSL.out]
            by_cases h400 : k4 + (nb + 8) ≤ 400
            · first
                | (exfalso; omega)
                | (go_wp2_with fail
                   go_ret2
                   exact ⟨.inr ⟨by rw [HLEN.out]; exact h400, A7, k4 + (nb + 8), c7, by rfl, HLEN.out, (hO7.mono (by omega)).b⟩, HB5.out.trans (hb7.mono (by omega))⟩)
            · first
                | (exfalso; omega)
                | (go_wp2_with fail
                   go_ret2
                   exact ⟨.inl ⟨by rw [HLEN.out]; omega, by rfl⟩, HB5.out.trans (hb7.mono (by omega))⟩)
          -- ]]end2
      -- ]]loop2
  -- ]]loop1
end Go.Proofs.YtbcagdjfegobnaaGreat
