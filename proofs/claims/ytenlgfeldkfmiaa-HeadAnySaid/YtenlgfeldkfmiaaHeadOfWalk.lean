/- The contract of headOf. -/
import Derived.Test.YtenlgfeldkfmiaaHeadEncWalk
import Derived.Test.YtenlgfeldkfmiaaCutStrWalk
import Derived.Test.YtenlgfeldkfmiaaPickAt
import Derived.Test.YtenlgfeldkfmiaaRawOpen
import Derived.Test.YtenlgfeldkfmiaaStrApp
import Derived.Laws.IdiomStrings
import Derived.Deep.RegionHeld3
import Derived.Deep.Cut
import Derived.Deep.CutBlock
import Derived.Deep.CutRange
import Derived.Deep.DeepCutAuto
namespace Go.Proofs.Ytenlgfeldkfmiaa
open Go.ChangeShapes Go.WideShapes Go.ChangeAt Go.RowKit
set_option linter.unusedVariables false

theorem xor_i64 (a b : Int) : -9223372036854775808 ≤ bits .xor .i64 a b ∧ bits .xor .i64 a b ≤ 9223372036854775807 := by
  have : ∃ n, bits .xor .i64 a b = IntKind.i64.wrap n := ⟨_, rfl⟩
  obtain ⟨n, hn⟩ := this
  rw [hn, IntKind.wrap_i64]
  omega

/-- The bytes of a string, in a block of their own. -/
theorem bytes_rd (w : World) (e : TypeId) (s : ByteArray) (cap : Nat) (fr : Nat × Nat) : RdB (w.drew.alloc (.cells (bytesRow s cap) e fr)) (some ⟨w.heap.size, 0, none⟩) (bts s) := by
  refine ⟨by simp [u8s], fun hn => ⟨w.heap.size, 0, rfl, fun j u hu => ?_⟩⟩
  have hj : j < s.data.size := by
    have := (List.getElem?_eq_some_iff.1 hu).1
    rw [u8s_length] at this; simpa [bts] using this
  have hb : (w.drew.alloc (.cells (bytesRow s cap) e fr)).heap[w.heap.size]? = some (.cells (bytesRow s cap) e fr) := heap_alloc_new w.drew _
  rw [cell_of_row _ w.heap.size _ _ e fr hb, Nat.zero_add, bytesRow_at s cap j hj]
  rw [u8s_get _ _ (by rw [bts_len]; exact hj)] at hu
  rw [← hu]
  simp only [bts, List.getD, Array.getElem?_toList, Array.getElem?_eq_getElem hj, Option.getD_some]

theorem bytes_rd2 (w : World) (e : TypeId) (s : ByteArray) (cap : Nat) (fr : Nat × Nat) {H : Nat} (hH : w.heap.size = H) : Rd (w.alloc (.cells (bytesRow s cap) e fr)) 1 (some ⟨H, 0, none⟩) (bts s).length (u8s (bts s)) := by
  subst hH; exact bytes_rd w e s cap fr
theorem RdB.as {w : World} {A : Option Addr} {n : Nat} {bs : List UInt8} (h : Rd w 1 A n (u8s bs)) (hn : bs.length = n) : RdB w A bs := by subst hn; exact h

set_option maxRecDepth 100000 in
set_option maxHeartbeats 4000000 in
theorem headOf_any (r : RawD) (hr : RawOk r) (w : World) :
    Calls Try.prog 9 #[.agg #[.int .i64 r.kind, .int .i64 r.a, .int .i64 r.b, .string r.text]] w fun e w' => ∃ (H : HeadD) (T : Option Addr) (c : Nat), HeadOk H ∧ e = .returned (.agg (hcells H T c)) ∧ RdB w' T H.tok ∧ H.tok.length ≤ c ∧ c ≤ 9223372036854775807 ∧ Below w.heap.size w w' := by
  obtain ⟨o0, o1, o2, o3⟩ := hr
  unfold maxLen at o3
  obtain ⟨k, HK, k0, k1⟩ := mod_ex r.kind 3 (by decide)
  obtain ⟨t, HT, t0, t1⟩ := mod_ex r.a 256 (by decide)
  obtain ⟨f, HF, f0, f1⟩ := mod_ex r.b 256 (by decide)
  obtain ⟨q, HQ, q0, q1⟩ := mod_ex r.b 4 (by decide)
  go_enter Try.func9, Try.ntmps9
  go_upto_region 1 with (fail)
  refine wp_world (fun w' => Blk w' w.heap.size 23 #[.int .i64 r.kind, .int .i64 r.a, .int .i64 r.b, .string r.text] ∧ Blk w' (w.heap.size + 1) 26 #[.int .i64 0, .int .i64 0, .int .i64 0, .slice none 0 0, .int .i64 0, .int .i64 0] ∧ Below w.heap.size w w') ⟨(Blk.new _ _ _).alloc _, Blk.new1 _ _ _ _, ((Below.refl _ _).alloc (Nat.le_refl _) _).alloc (by simp) _⟩ ?_
  rintro w2 ⟨hQ, hC, hb⟩
  have FQ := hQ.facts4
  have hgl := hC.lt
  have hqi : IntKind.i64.wrap (1 + q) = 1 + q := by rw [IntKind.wrap_i64]; omega
  have HB := Lib.hid hb
  have HQQ := Lib.hid hQ
  have HCC := Lib.hid hC
  clear hb hQ hC
  go_cut [3] (fun s3 wx => ∃ g : Nat, s3 = .pointer (some ⟨g, 0, none⟩) ∧ w.heap.size + 1 < g ∧ Blk wx g 26 #[.int .i64 k, .int .i64 t, .int .i64 0, .slice none 0 0, .int .i64 0, .int .i64 (1 + q)] ∧ Blk wx w.heap.size 23 #[.int .i64 r.kind, .int .i64 r.a, .int .i64 r.b, .string r.text] ∧ Blk wx (w.heap.size + 1) 26 #[.int .i64 0, .int .i64 0, .int .i64 0, .slice none 0 0, .int .i64 0, .int .i64 0] ∧ Below w.heap.size w wx)
  case first =>
    go_region_held3 (fun w' => w'.cell? ⟨w.heap.size, 0, none⟩ = some (.int .i64 r.kind) ∧ w'.cell? ⟨w.heap.size, 1, none⟩ = some (.int .i64 r.a) ∧ w'.cell? ⟨w.heap.size, 2, none⟩ = some (.int .i64 r.b)) (go_keep)
      (first
        | (go_at_call_of 12 (Value.int .i64 r.kind); refine (picked_at _ _ _ o0.1 o0.2 (by decide) (by decide) HK _).mono ?_; rintro e w' ⟨rfl, rfl⟩)
        | (go_at_call_of 12 (Value.int .i64 r.a); refine (picked_at _ _ _ o1.1 o1.2 (by decide) (by decide) HT _).mono ?_; rintro e w' ⟨rfl, rfl⟩)
        | (go_at_call_of 12 (Value.int .i64 r.b); refine (picked_at _ _ _ o2.1 o2.2 (by decide) (by decide) HQ _).mono ?_; rintro e w' ⟨rfl, rfl⟩))
    all_goals
      go_wp2_with fail
      go_meet
      refine ⟨_, rfl, hgl, ?_, ?_, ?_, ?_⟩
      · first | exact Blk.new _ _ _ | exact (Blk.new _ _ _).drew
      · have hQ := HQQ.out
        (apply Blk.as; (case h => (repeat (first | with_reducible exact hQ | with_reducible apply Blk.drew | with_reducible apply Blk.set4 | with_reducible apply Blk.set_ | (with_reducible apply Blk.far4 (hne := ?side); case side => (first | omega | (simp; omega) | (simp; done))) | (with_reducible apply Blk.far (hp := ?side); case side => (first | omega | (simp; omega) | (simp; done))) | with_reducible apply Blk.alloc))); (case e => (first | with_reducible rfl | (simp; done) | rfl)))
      · have hC := HCC.out
        (apply Blk.as; (case h => (repeat (first | with_reducible exact hC | with_reducible apply Blk.drew | with_reducible apply Blk.set4 | with_reducible apply Blk.set_ | (with_reducible apply Blk.far4 (hne := ?side); case side => (first | omega | (simp; omega) | (simp; done))) | (with_reducible apply Blk.far (hp := ?side); case side => (first | omega | (simp; omega) | (simp; done))) | with_reducible apply Blk.alloc))); (case e => (first | with_reducible rfl | (simp; done) | rfl)))
      · have hb := HB.out
        (repeat (first | with_reducible exact hb | with_reducible refine Below.drew ?_ | (with_reducible refine Below.set4 ?_ ?side _ _ _ _; case side => (first | omega | (simp; omega) | (simp; done))) | (with_reducible refine Below.setCell ?_ ?side _; case side => (first | omega | (simp; omega) | (simp; done))) | (with_reducible refine Below.alloc ?_ ?side _; case side => (first | omega | (simp; omega) | (simp; done)))))
  case rest =>
    obtain ⟨g, rfl, hg, hH, hQ, hC, hb⟩ := hcut
    clear HB HQQ HCC FQ hgl hqi
    obtain ⟨s, hs⟩ : ∃ s : Int, 1 + q = s := ⟨_, rfl⟩
    rw [hs] at hH
    obtain ⟨p, v, hp, hv⟩ : ∃ p v : Int, 8 * s = p ∧ (s = 1 ∧ p = 8 ∧ v = 256 ∨ s = 2 ∧ p = 16 ∧ v = 65536 ∨ s = 3 ∧ p = 24 ∧ v = 16777216 ∨ s = 4 ∧ p = 32 ∧ v = 4294967296) := by
      rcases (show s = 1 ∨ s = 2 ∨ s = 3 ∨ s = 4 by omega) with h | h | h | h
      · exact ⟨8, 256, by omega⟩
      · exact ⟨16, 65536, by omega⟩
      · exact ⟨24, 16777216, by omega⟩
      · exact ⟨32, 4294967296, by omega⟩
    have hp64 : IntKind.i64.wrap p = p := by rw [IntKind.wrap_i64]; omega
    have hp64' : IntKind.i64.wrap (8 * s) = p := by rw [hp, hp64]
    have hsh : ∀ w, Sem.run Try.prog (Op.shift BinOp.shl IntKind.i64 1 IntKind.i64 p) w = .ok (.int .i64 v) w := by
      rcases hv with ⟨_, h, h'⟩ | ⟨_, h, h'⟩ | ⟨_, h, h'⟩ | ⟨_, h, h'⟩ <;> rw [h, h'] <;> exact fun _ => by kernel_rfl
    have hv1 : 0 < v := by omega
    have hv2 : v ≤ 4294967296 := by omega
    have hxr := xor_i64 r.a r.b
    obtain ⟨X, hX⟩ : ∃ X, bits .xor .i64 r.a r.b = X := ⟨_, rfl⟩
    rw [hX] at hxr
    obtain ⟨y, HY, y0, y1⟩ := mod_ex X v hv1
    have FQ := hQ.facts4
    have FH := hH.facts6
    have HV := Lib.hid hv
    have HS := Lib.hid hs
    have HB := Lib.hid hb
    have HQQ := Lib.hid hQ
    have HCC := Lib.hid hC
    have HHH := Lib.hid hH
    clear hb hQ hC hH hs hv
    have hk5 : ∀ (W : World) (u : Value), (W.setCell ⟨g, 4, none⟩ u).drew.cell? ⟨g, 5, none⟩ = W.cell? ⟨g, 5, none⟩ := fun W u => World.cell?_setCell_other W ⟨g, 4, none⟩ ⟨g, 5, none⟩ u (by intro h; injection h with _ h; exact absurd h (by decide))
    have hne1 : ¬ w.heap.size = g := by omega
    have hne2 : ¬ g = w.heap.size := by omega
    have hne3 : w.heap.size ≠ g := hne1
    go_upto_region 2 with (fail)
    go_region_held3 (fun w' => w'.cell? ⟨w.heap.size, 1, none⟩ = some (.int .i64 r.a) ∧ w'.cell? ⟨w.heap.size, 2, none⟩ = some (.int .i64 r.b) ∧ w'.cell? ⟨g, 5, none⟩ = some (.int .i64 s)) (go_keep)
      (first
        | (go_at_call 12; refine (picked_at X v y hxr.1 hxr.2 hv1 (by omega) HY _).mono ?_; rintro e w' ⟨rfl, rfl⟩))
    go_upto_region 3 with (fail)
    refine wp_world (fun w' => Blk w' g 26 #[.int .i64 k, .int .i64 t, .int .i64 0, .slice none 0 0, .int .i64 y, .int .i64 s] ∧ Blk w' w.heap.size 23 #[.int .i64 r.kind, .int .i64 r.a, .int .i64 r.b, .string r.text] ∧ Blk w' (w.heap.size + 1) 26 #[.int .i64 0, .int .i64 0, .int .i64 0, .slice none 0 0, .int .i64 0, .int .i64 0] ∧ Below w.heap.size w w') ⟨?_, ?_, ?_, ?_⟩ ?_
    · have h := HHH.out
      (apply Blk.as; (case h => (repeat (first | with_reducible exact h | with_reducible apply Blk.drew | with_reducible apply Blk.set4 | with_reducible apply Blk.set_ | (with_reducible apply Blk.far4 (hne := ?side); case side => (first | omega | (simp; omega) | (simp; done))) | (with_reducible apply Blk.far (hp := ?side); case side => (first | omega | (simp; omega) | (simp; done))) | with_reducible apply Blk.alloc))); (case e => (first | with_reducible rfl | (simp; done) | rfl)))
    · have h := HQQ.out
      (apply Blk.as; (case h => (repeat (first | with_reducible exact h | with_reducible apply Blk.drew | with_reducible apply Blk.set4 | with_reducible apply Blk.set_ | (with_reducible apply Blk.far4 (hne := ?side); case side => (first | omega | (simp; omega) | (simp; done))) | (with_reducible apply Blk.far (hp := ?side); case side => (first | omega | (simp; omega) | (simp; done))) | with_reducible apply Blk.alloc))); (case e => (first | with_reducible rfl | (simp; done) | rfl)))
    · have h := HCC.out
      (apply Blk.as; (case h => (repeat (first | with_reducible exact h | with_reducible apply Blk.drew | with_reducible apply Blk.set4 | with_reducible apply Blk.set_ | (with_reducible apply Blk.far4 (hne := ?side); case side => (first | omega | (simp; omega) | (simp; done))) | (with_reducible apply Blk.far (hp := ?side); case side => (first | omega | (simp; omega) | (simp; done))) | with_reducible apply Blk.alloc))); (case e => (first | with_reducible rfl | (simp; done) | rfl)))
    · have h := HB.out
      (repeat (first | with_reducible exact h | with_reducible refine Below.drew ?_ | (with_reducible refine Below.set4 ?_ ?side _ _ _ _; case side => (first | omega | (simp; omega) | (simp; done))) | (with_reducible refine Below.setCell ?_ ?side _; case side => (first | omega | (simp; omega) | (simp; done))) | (with_reducible refine Below.alloc ?_ ?side _; case side => (first | omega | (simp; omega) | (simp; done)))))
    clear HB HQQ HCC HHH FQ FH hk5 hsh hp64 hp64'
    rintro w3 ⟨hH, hQ, hC, hb⟩
    have FQ := hQ.facts4
    have FH := hH.facts6
    have FC := hC.facts6
    have HYV : Hid (y.toNat < 256 ^ s.toNat) := by
      rcases HV.out with ⟨h, _, h'⟩ | ⟨h, _, h'⟩ | ⟨h, _, h'⟩ | ⟨h, _, h'⟩ <;> (show _ < _; rw [h]; simp; omega)
    have hs14 : 1 ≤ s.toNat ∧ s.toNat ≤ 4 := by
      rcases HV.out with ⟨h, _⟩ | ⟨h, _⟩ | ⟨h, _⟩ | ⟨h, _⟩ <;> (rw [h]; decide)
    have hk3 : k = 0 ∨ k = 1 ∨ k = 2 := by omega
    have HHH := Lib.hid hH
    have HB := Lib.hid hb
    have HCC := Lib.hid hC
    have HQQ := Lib.hid hQ
    have HS14 := Lib.hid hs14
    have e1 : ((t.toNat : Nat) : Int) = t := by omega
    have e2 : ((y.toNat : Nat) : Int) = y := by omega
    have e3 : ((s.toNat : Nat) : Int) = s := by omega
    have e4 : ((f.toNat : Nat) : Int) = f := by omega
    have E1 := Lib.hid e1
    have E2 := Lib.hid e2
    have E3 := Lib.hid e3
    have E4 := Lib.hid e4
    clear hH hb hC hQ hs14 e1 e2 e3 e4
    obtain ⟨cs, hcs⟩ : ∃ cs, cutS r.text 30 = cs := ⟨_, rfl⟩
    have hcs30 : cs.size ≤ 30 := by rw [← hcs]; exact cutS_size _ _
    have HCS : Hid (∀ W, Calls Try.prog 23 #[.string r.text, .int .i64 30] W fun e w' => e = .returned (.string cs) ∧ W = w') := fun W => by
      have := cut_any r.text 30 o3 (by decide) W
      rw [hcs] at this; exact this
    have hcv : ∀ W, (convert 9 24 (.string cs)).run Try.prog W = .ok (.slice (some ⟨W.heap.size, 0, none⟩) cs.size (grownCap W cs.size 0 5)) (W.drew.alloc (.cells (bytesRow cs (grownCap W cs.size 0 5)) 5 ((bytesRow cs (grownCap W cs.size 0 5)).size, (bytesRow cs (grownCap W cs.size 0 5)).size + 1))) := fun W => run_bytes_of_string W _ _ _ cs Try.underlying9 Try.underlying24 Try.underlying5
    have hgw3 := HHH.out.lt
    have hcw3 := HCC.out.lt
    clear hcs
    rcases hk3 with rfl | rfl | rfl
    · go_upto_region 4 with (fail)
      go_cut [] (fun wx => ∃ (G c : Nat), G ≠ g ∧ Blk wx g 26 #[.int .i64 0, .int .i64 t, .int .i64 f, .slice (some ⟨G, 0, none⟩) cs.size c, .int .i64 y, .int .i64 s] ∧ RdB wx (some ⟨G, 0, none⟩) (bts cs) ∧ cs.size ≤ c ∧ c ≤ 9223372036854775807 ∧ Blk wx (w.heap.size + 1) 26 #[.int .i64 0, .int .i64 0, .int .i64 0, .slice none 0 0, .int .i64 0, .int .i64 0] ∧ Below w.heap.size w wx ∧ G ≠ w.heap.size + 1)
      case first =>
        go_region_with
          (first
            | (go_at_call 12; refine (picked_at _ _ _ o2.1 o2.2 (by decide) (by decide) HF _).mono ?_; rintro e w' ⟨rfl, rfl⟩)
            | (go_at_call 23; refine (HCS.out _).mono ?_; rintro e w' ⟨rfl, rfl⟩))
        all_goals
          go_wp2_with fail
          go_meet
          refine ⟨w3.heap.size, ?_⟩
          apply Exists.intro
          refine ⟨by omega, ?_, ?_, ?_, ?_, ?_, ?_, by omega⟩
          · have hH := HHH.out
            (apply Blk.as; (case h => (repeat (first | with_reducible exact hH | with_reducible apply Blk.drew | with_reducible apply Blk.set4 | with_reducible apply Blk.set_ | (with_reducible apply Blk.far4 (hne := ?side); case side => (first | omega | (simp; omega) | (simp; done))) | (with_reducible apply Blk.far (hp := ?side); case side => (first | omega | (simp; omega) | (simp; done))) | with_reducible apply Blk.alloc))); (case e => (first | with_reducible rfl | (simp; done) | rfl)))
          · refine RdB.as (n := (bts cs).length) (bs := bts cs) ?_ rfl
            (repeat (first | with_reducible refine Rd.drew ?_ | with_reducible refine Rd.farc ?_ (by simp; omega) _ | (refine bytes_rd2 _ _ _ _ _ ?_; simp; done)))
          · exact grownCap_ge _ _ _ _
          · exact grownCap_le_maxLen _ _ _ _ (by unfold maxLen; omega)
          · have hC := HCC.out
            (apply Blk.as; (case h => (repeat (first | with_reducible exact hC | with_reducible apply Blk.drew | with_reducible apply Blk.set4 | with_reducible apply Blk.set_ | (with_reducible apply Blk.far4 (hne := ?side); case side => (first | omega | (simp; omega) | (simp; done))) | (with_reducible apply Blk.far (hp := ?side); case side => (first | omega | (simp; omega) | (simp; done))) | with_reducible apply Blk.alloc))); (case e => (first | with_reducible rfl | (simp; done) | rfl)))
          · have hb := HB.out
            (repeat (first | with_reducible exact hb | with_reducible refine Below.drew ?_ | (with_reducible refine Below.set4 ?_ ?side _ _ _ _; case side => (first | omega | (simp; omega) | (simp; done))) | (with_reducible refine Below.setCell ?_ ?side _; case side => (first | omega | (simp; omega) | (simp; done))) | (with_reducible refine Below.alloc ?_ ?side _; case side => (first | omega | (simp; omega) | (simp; done)))))
      case rest =>
        obtain ⟨G, c, hGg, hH, hR, hc1, hc2, hC, hb, hG1⟩ := hcut
        have FH := hH.facts6
        have FC := hC.facts6
        have HR := Lib.hid hR
        have HB9 := Lib.hid hb
        have HC9 := Lib.hid hC
        clear hH hR hb hC
        go_wp2_with fail
        refine bodyPost_ret (v := .agg #[.int .i64 0, .int .i64 t, .int .i64 f, .slice (some ⟨G, 0, none⟩) cs.size c, .int .i64 y, .int .i64 s]) ?_ rfl ⟨⟨0, t.toNat, f.toNat, bts cs, y.toNat, s.toNat⟩, some ⟨G, 0, none⟩, c, ?_, ?_, ?_, by rw [bts_len]; exact hc1, hc2, ?_⟩
        · simp [results, Try.results9, go_sem, FC] <;> rfl
        · have hl : (bts cs).length ≤ 120 := by rw [bts_len]; omega
          exact ⟨by simp, by simp only; omega, by simp only; omega, by simp only; omega, by simp, fun _ => HS14.out, HYV.out, by simp⟩
        · simp only [hcells, E1.out, E2.out, E3.out, E4.out, bts_len]; rfl
        · have hR := HR.out
          have hR : Rd wc 1 (some ⟨G, 0, none⟩) (bts cs).length (u8s (bts cs)) := hR
          refine RdB.as (n := (bts cs).length) (bs := bts cs) ?_ rfl
          (repeat (first | with_reducible exact hR | with_reducible refine Rd.drew ?_ | (with_reducible refine Rd.farc ?_ ?side _; case side => (first | omega | (simp; omega) | (simp; done))) | with_reducible refine Rd.alloc ?_ _))
        · have hb := HB9.out
          (repeat (first | with_reducible exact hb | with_reducible refine Below.drew ?_ | (with_reducible refine Below.set4 ?_ ?side _ _ _ _; case side => (first | omega | (simp; omega) | (simp; done))) | (with_reducible refine Below.setCell ?_ ?side _; case side => (first | omega | (simp; omega) | (simp; done))) | (with_reducible refine Below.alloc ?_ ?side _; case side => (first | omega | (simp; omega) | (simp; done)))))
    · go_upto_region 4 with (fail)
      go_cut [] (fun wx => ∃ (G c : Nat), G ≠ g ∧ Blk wx g 26 #[.int .i64 1, .int .i64 t, .int .i64 f, .slice (some ⟨G, 0, none⟩) cs.size c, .int .i64 y, .int .i64 s] ∧ RdB wx (some ⟨G, 0, none⟩) (bts cs) ∧ cs.size ≤ c ∧ c ≤ 9223372036854775807 ∧ Blk wx (w.heap.size + 1) 26 #[.int .i64 0, .int .i64 0, .int .i64 0, .slice none 0 0, .int .i64 0, .int .i64 0] ∧ Below w.heap.size w wx ∧ G ≠ w.heap.size + 1)
      case first =>
        go_region_with
          (first
            | (go_at_call 12; refine (picked_at _ _ _ o2.1 o2.2 (by decide) (by decide) HF _).mono ?_; rintro e w' ⟨rfl, rfl⟩)
            | (go_at_call 23; refine (HCS.out _).mono ?_; rintro e w' ⟨rfl, rfl⟩))
        all_goals
          go_wp2_with fail
          go_meet
          refine ⟨w3.heap.size, ?_⟩
          apply Exists.intro
          refine ⟨by omega, ?_, ?_, ?_, ?_, ?_, ?_, by omega⟩
          · have hH := HHH.out
            (apply Blk.as; (case h => (repeat (first | with_reducible exact hH | with_reducible apply Blk.drew | with_reducible apply Blk.set4 | with_reducible apply Blk.set_ | (with_reducible apply Blk.far4 (hne := ?side); case side => (first | omega | (simp; omega) | (simp; done))) | (with_reducible apply Blk.far (hp := ?side); case side => (first | omega | (simp; omega) | (simp; done))) | with_reducible apply Blk.alloc))); (case e => (first | with_reducible rfl | (simp; done) | rfl)))
          · refine RdB.as (n := (bts cs).length) (bs := bts cs) ?_ rfl
            (repeat (first | with_reducible refine Rd.drew ?_ | with_reducible refine Rd.farc ?_ (by simp; omega) _ | (refine bytes_rd2 _ _ _ _ _ ?_; simp; done)))
          · exact grownCap_ge _ _ _ _
          · exact grownCap_le_maxLen _ _ _ _ (by unfold maxLen; omega)
          · have hC := HCC.out
            (apply Blk.as; (case h => (repeat (first | with_reducible exact hC | with_reducible apply Blk.drew | with_reducible apply Blk.set4 | with_reducible apply Blk.set_ | (with_reducible apply Blk.far4 (hne := ?side); case side => (first | omega | (simp; omega) | (simp; done))) | (with_reducible apply Blk.far (hp := ?side); case side => (first | omega | (simp; omega) | (simp; done))) | with_reducible apply Blk.alloc))); (case e => (first | with_reducible rfl | (simp; done) | rfl)))
          · have hb := HB.out
            (repeat (first | with_reducible exact hb | with_reducible refine Below.drew ?_ | (with_reducible refine Below.set4 ?_ ?side _ _ _ _; case side => (first | omega | (simp; omega) | (simp; done))) | (with_reducible refine Below.setCell ?_ ?side _; case side => (first | omega | (simp; omega) | (simp; done))) | (with_reducible refine Below.alloc ?_ ?side _; case side => (first | omega | (simp; omega) | (simp; done)))))
      case rest =>
        obtain ⟨G, c, hGg, hH, hR, hc1, hc2, hC, hb, hG1⟩ := hcut
        have FH := hH.facts6
        have FC := hC.facts6
        have HR := Lib.hid hR
        have HB9 := Lib.hid hb
        have HC9 := Lib.hid hC
        clear hH hR hb hC
        go_wp2_with fail
        refine bodyPost_ret (v := .agg #[.int .i64 1, .int .i64 t, .int .i64 f, .slice (some ⟨G, 0, none⟩) cs.size c, .int .i64 0, .int .i64 0]) ?_ rfl ⟨⟨1, t.toNat, f.toNat, bts cs, 0, 0⟩, some ⟨G, 0, none⟩, c, ?_, ?_, ?_, by rw [bts_len]; exact hc1, hc2, ?_⟩
        · simp [results, Try.results9, go_sem, FC] <;> rfl
        · have hl : (bts cs).length ≤ 120 := by rw [bts_len]; omega
          exact ⟨by simp, by simp only; omega, by simp only; omega, by simp only; omega, by simp, by simp, by simp, by simp⟩
        · simp only [hcells, E1.out, E4.out, bts_len]; rfl
        · have hR := HR.out
          have hR : Rd wc 1 (some ⟨G, 0, none⟩) (bts cs).length (u8s (bts cs)) := hR
          refine RdB.as (n := (bts cs).length) (bs := bts cs) ?_ rfl
          (repeat (first | with_reducible exact hR | with_reducible refine Rd.drew ?_ | (with_reducible refine Rd.farc ?_ ?side _; case side => (first | omega | (simp; omega) | (simp; done))) | with_reducible refine Rd.alloc ?_ _))
        · have hb := HB9.out
          (repeat (first | with_reducible exact hb | with_reducible refine Below.drew ?_ | (with_reducible refine Below.set4 ?_ ?side _ _ _ _; case side => (first | omega | (simp; omega) | (simp; done))) | (with_reducible refine Below.setCell ?_ ?side _; case side => (first | omega | (simp; omega) | (simp; done))) | (with_reducible refine Below.alloc ?_ ?side _; case side => (first | omega | (simp; omega) | (simp; done)))))
    · go_wp2_with fail
      refine bodyPost_ret (v := .agg #[.int .i64 2, .int .i64 t, .int .i64 0, .slice none 0 0, .int .i64 y, .int .i64 s]) ?_ rfl ⟨⟨2, t.toNat, 0, [], y.toNat, s.toNat⟩, none, 0, ?_, ?_, Rd.nil, by simp, by decide, ?_⟩
      · simp [results, Try.results9, go_sem, FC] <;> rfl
      · exact ⟨by simp, by simp, by simp only; omega, by simp, by simp, fun _ => HS14.out, HYV.out, by simp⟩
      · simp only [hcells, E1.out, E2.out, E3.out]; rfl
      · have hb := HB.out
        (repeat (first | with_reducible exact hb | with_reducible refine Below.drew ?_ | (with_reducible refine Below.set4 ?_ ?side _ _ _ _; case side => (first | omega | (simp; omega) | (simp; done))) | (with_reducible refine Below.setCell ?_ ?side _; case side => (first | omega | (simp; omega) | (simp; done))) | (with_reducible refine Below.alloc ?_ ?side _; case side => (first | omega | (simp; omega) | (simp; done)))))
end Go.Proofs.Ytenlgfeldkfmiaa
