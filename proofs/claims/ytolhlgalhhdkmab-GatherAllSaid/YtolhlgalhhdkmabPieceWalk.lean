/- The contract of the closure 'piece' of gather.Put. -/
import Derived.Test.YtolhlgalhhdkmabMergedWalk
namespace Go.Proofs.Ytolhlgalhhdkmab
open Go.ChangeShapes Go.WideShapes Go.ChangeAt Go.RowKit
set_option linter.unusedVariables false

attribute [local go_sem] lLoad

/-- What the closure leaves as it was: all blocks but the slice's and its row's. -/
def Spares (w w' : World) (g2 : Nat) (row : Option Nat) : Prop := ∀ b, b < w.heap.size → b ≠ g2 → some b ≠ row → w'.heap[b]? = w.heap[b]?

set_option maxRecDepth 100000 in
set_option maxHeartbeats 2000000 in
theorem gPiece_any (to_ at_ off : Int) (g1 g2 g3 g4 B : Nat) (A : Option Addr) (m c : Nat) (l : List PD) (b o n d : Nat) (data : List UInt8) (i j k : Nat) (w : World)
    (hl : l.length = m) (hm : m ≤ 100) (hn : data.length = n) (hnd : n ≤ d) (hdm : d ≤ 9223372036854775807) (hi : at_ - off = (i : Int)) (hj : to_ - off = (j : Int)) (hij : i < j) (hjn : j ≤ n) (hk : m + 1 = k) (hat : at_ < to_)
    (h1 : Blk w g1 3 #[.int .i64 at_]) (h2 : Blk w g2 45 #[.slice A m c]) (h3 : Blk w g3 43 #[.slice (some ⟨b, o, none⟩) n d]) (h4 : Blk w g4 3 #[.int .i64 off]) (n12 : g2 ≠ g1) (n32 : g2 ≠ g3) (n42 : g2 ≠ g4)
    (b1 : g1 < B) (b2 : g2 < B) (b3 : g3 < B) (b4 : g4 < B) (hB : B ≤ w.heap.size) (hO : OwnX pdc 2 w B 68 A c l) :
    Calls Try.prog 35 #[.int .i64 to_, .pointer (some ⟨g1, 0, none⟩), .pointer (some ⟨g2, 0, none⟩), .pointer (some ⟨g3, 0, none⟩), .pointer (some ⟨g4, 0, none⟩)] w fun e w' => ∃ g c', e = .returned (.tuple #[]) ∧ Blk w' g2 45 #[.slice (some ⟨g, 0, none⟩) k c'] ∧
      OwnX pdc 2 w' B 68 (some ⟨g, 0, none⟩) c' (l ++ [⟨at_, some ⟨b, o + i, none⟩, d - i, (data.drop i).take (j - i)⟩]) ∧ (A.map (·.block) = some g ∨ w.heap.size ≤ g) ∧ Spares w w' g2 (A.map (·.block)) ∧ w.heap.size ≤ w'.heap.size ∧ Below 0 w w' := by
  have F1 := h1.facts1
  have F2 := h2.facts1
  have F3 := h3.facts1
  have F4 := h4.facts1
  have hwi : IntKind.i64.wrap (at_ - off) = (i : Int) := by rw [hi, IntKind.wrap_i64]; omega
  have hwj : IntKind.i64.wrap (to_ - off) = (j : Int) := by rw [hj, IntKind.wrap_i64]; omega
  have hij' : (i : Int) ≤ (j : Int) := by omega
  have hjd : (j : Int) ≤ (d : Int) := by omega
  have hi0 : (0 : Int) ≤ (i : Int) := by omega
  have hj0 : (0 : Int) ≤ (j : Int) := by omega
  have hdi : ¬ d = i := by omega
  have hdl : ((data.drop i).take (j - i)).length = j - i := by rw [List.length_take, List.length_drop, hn]; omega
  have HO := Lib.hid hO
  have HL := Lib.hid hl
  have HK := Lib.hid hk
  have HDL := Lib.hid hdl
  have H2 := Lib.hid h2
  clear hO hl hk hdl hi hj h1 h2 h3 h4 hn
  generalize (data.drop i).take (j - i) = cut at *
  go_enter Try.func35, Try.ntmps35
  go_wp2_with fail
  rw [← lLoad_eq]
  go_region_held3 (fun w' => w'.cell? ⟨g1, 0, none⟩ = some (.int .i64 at_) ∧ w'.cell? ⟨g3, 0, none⟩ = some (.slice (some ⟨b, o, none⟩) n d) ∧ w'.cell? ⟨g4, 0, none⟩ = some (.int .i64 off)) (go_keep)
    (first
      | (refine step_addP (by rfl) _ _ (by rfl) B A m c l HL.out (by rfl) ((show OwnX pdc 2 w.drew B 68 A c l from HO.out).alloc _) ⟨at_, some ⟨b, o + i, none⟩, d - i, cut⟩ _ _ (by rfl) (rd_pdl _ ⟨at_, some ⟨b, o + i, none⟩, d - i, cut⟩ (j - i) HDL.out) k HK.out (by omega) (by first | omega | (simp; done) | (simp; omega)) ?_; intro g c' w5 hO5 hcap5 hcm5 hb5 hgr5 hat5; have hc5 := cell_under hb5; have hf5 := frozen_under hb5; have k1 := hc5 g1 0 b1; have k3 := hc5 g3 0 b3; have k4 := hc5 g4 0 b4; have k2 := hc5 g2 0 b2; have kf := hf5 g2 0 b2)
      | fail)
  all_goals
    go_wp2_with fail
    go_end0
    have hA : ∀ k', A.map (·.block) = some k' → B ≤ k' ∧ k' < w.heap.size := fun k' hk' => own_block_lt HO.out k' (by rw [own_blk]; exact hk')
    have hsp : ∀ b', b' < w.heap.size → some b' ≠ A.map (·.block) → w5.heap[b']? = w.heap[b']? := fun b' hb' hne' => (hgr5.block b' (Nat.lt_trans hb' (Nat.lt_succ_self _) |> fun h => by simpa using h) hne').trans (Below.heap_alloc w _ b' hb')
    have hg2A : some g2 ≠ A.map (·.block) := fun e => by have := (hA g2 e.symm).1; omega
    have hB2 : Blk w5 g2 45 #[.slice A m c] := (hsp g2 (by omega) hg2A).trans H2.out
    have hz5 := hb5.size
    simp at hz5
    refine ⟨g, c', rfl, hB2.set_ 0 _, hO5.set_below b2 _, ?_, ?_, ?_, ?_⟩
    · rcases hat5 with h | h
      · exact .inl h
      · right; rw [h]; simp
    · intro b' hb' hne' hrow'
      exact (Below.heap_setCell w5 ⟨g2, 0, none⟩ _ b' hne').trans (hsp b' hb' hrow')
    · simp; omega
    · refine Below.setCell (Below.trans ?_ (hb5.mono (Nat.zero_le _))) (Nat.zero_le _) _
      (repeat (first | with_reducible exact (Below.refl _ _) | with_reducible refine Below.drew ?_ | (with_reducible refine Below.set4 ?_ ?side _ _ _ _; case side => (first | omega | (simp; omega) | (simp; done))) | (with_reducible refine Below.setCell ?_ ?side _; case side => (first | omega | (simp; omega) | (simp; done))) | (with_reducible refine Below.alloc ?_ ?side _; case side => (first | omega | (simp; omega) | (simp; done)))))
end Go.Proofs.Ytolhlgalhhdkmab
