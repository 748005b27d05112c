/- The contracts of gather.Put, merged, Take, Check, where one piece is held. -/
import Derived.Test.YtolhlgalhhdkmabGatherWalk
import Derived.Deep.RegionLaw
import Derived.Deep.RegionHeld3
namespace Go.Proofs.Ytolhlgalhhdkmab
open Go.ChangeShapes Go.WideShapes Go.ChangeAt Go.RowKit
set_option linter.unusedVariables false

theorem pieceInfo : (Try.prog.info? 68).map (fun i => (i.zero, i.size, i.bytes)) = some (some (.agg #[.int .i64 0, .slice none 0 0]), 2, 32) := by kernel_rfl
theorem u8_infoG : (Try.prog.info? 5).map (fun i => (i.zero, i.size, i.bytes)) = some (some (.int .u8 0), 1, 1) := by kernel_rfl
/-- The cells of a piece. -/
def pcells (x : Int × Option Addr × Nat × Nat) : List Value := [.int .i64 x.1, .slice x.2.1 x.2.2.1 x.2.2.2]
theorem pcells_one (xs : List (Int × Option Addr × Nat × Nat)) : ∀ u ∈ xs.flatMap pcells, u.oneCell' = true := by
  intro u hu
  obtain ⟨x, _, hx⟩ := List.mem_flatMap.1 hu
  simp only [pcells, List.mem_cons, List.not_mem_nil, or_false] at hx
  rcases hx with rfl | rfl <;> rfl
theorem pcells_one1 (x : Int × Option Addr × Nat × Nat) : ∀ u ∈ pcells x, u.oneCell' = true := by
  have := pcells_one [x]; simpa using this
theorem rd_piece (w : World) (E : TypeId) (x : Int × Option Addr × Nat × Nat) : Rd (w.alloc (.cells #[.int .i64 x.1, .slice x.2.1 x.2.2.1 x.2.2.2] E)) 2 (some ⟨w.heap.size, 0, none⟩) 1 (pcells x) := Rd.new w E #[.int .i64 x.1, .slice x.2.1 x.2.2.1 x.2.2.2] 2 rfl
theorem rd_own1 {w : World} {base : Nat} {e : TypeId} {A : Option Addr} {l c : Nat} {bs : List UInt8} (h : w.ownsRow base e 1 (.slice A l c) l (u8s bs)) (hl : bs.length = l) : RdB w A bs := by
  subst hl; exact RdB.of_own h
/-- One piece in a row of its own. -/
def One (w : World) (base : Nat) (A : Option Addr) (c : Nat) (x : Int × Option Addr × Nat × Nat) : Prop := w.ownsRow base 68 2 (.slice A 1 c) 1 (pcells x)
theorem One.at_ {w : World} {base : Nat} {A : Option Addr} {c : Nat} {x : Int × Option Addr × Nat × Nat} (h : One w base A c x) : ∃ g, A = some ⟨g, 0, none⟩ ∧ base ≤ g ∧ g < w.heap.size ∧ w.cell? ⟨g, 0, none⟩ = some (.int .i64 x.1) ∧ w.cell? ⟨g, 1, none⟩ = some (.slice x.2.1 x.2.2.1 x.2.2.2) := by
  obtain ⟨g, cap, hv, hb, hlt⟩ := World.ownsRow.form h (by decide)
  injection hv with hA _ _
  refine ⟨g, hA, hb, hlt, ?_, ?_⟩
  · have := World.ownsRow.cells h (g := g) (by rw [hA]; rfl) 0 _ rfl
    rwa [add_none] at this
  · have := World.ownsRow.cells h (g := g) (by rw [hA]; rfl) 1 _ rfl
    rwa [add_none] at this

/-- The load of the slice, behind a name (so that the walk of the region does not try to take it first). -/
def lLoad : Oper := { dst := some 9, op := Op.load 45 (Operand.tmp 2), type := 45, pos := "gather.go:71", after := #[], guard := none }
theorem lLoad_eq : lLoad = { dst := some 9, op := Op.load 45 (Operand.tmp 2), type := 45, pos := "gather.go:71", after := #[], guard := none } := rfl
attribute [local go_sem] lLoad

set_option maxRecDepth 100000 in
set_option maxHeartbeats 2000000 in
/-- The closure 'piece', where two bytes from 0 on are laid. -/
theorem gPiece_two (g1 g2 g3 g4 c : Nat) (D : Addr) (w : World) (hc : 2 ≤ c) (hm : c ≤ 9223372036854775807) (h1 : Blk w g1 3 #[.int .i64 0]) (h2 : Blk w g2 45 #[.slice none 0 0]) (h3 : Blk w g3 43 #[.slice (some D) 2 c]) (h4 : Blk w g4 3 #[.int .i64 0]) (n12 : g2 ≠ g1) (n32 : g2 ≠ g3) (n42 : g2 ≠ g4) :
    Calls Try.prog 35 #[.int .i64 2, .pointer (some ⟨g1, 0, none⟩), .pointer (some ⟨g2, 0, none⟩), .pointer (some ⟨g3, 0, none⟩), .pointer (some ⟨g4, 0, none⟩)] w fun e w' => ∃ A c', e = .returned (.tuple #[]) ∧ Blk w' g2 45 #[.slice A 1 c'] ∧ One w' w.heap.size A c' (0, some D, 2, c) ∧ ∃ wm, Below w.heap.size w wm ∧ w' = wm.setCell ⟨g2, 0, none⟩ (.slice A 1 c') := by
  have F1 := h1.facts1
  have F2 := h2.facts1
  have F3 := h3.facts1
  have F4 := h4.facts1
  have hc0 : (c == 0) = false := by simp; omega
  have hc0' : ¬ c = 0 := by omega
  have hw0 : IntKind.i64.wrap 0 = 0 := rfl
  have hw2 : IntKind.i64.wrap 2 = 2 := rfl
  have hc2 : (2 : Int) ≤ (c : Int) := by omega
  go_enter Try.func35, Try.ntmps35
  go_wp2_with fail
  rw [← lLoad_eq]
  go_region_held3 (fun w' => w'.cell? ⟨g1, 0, none⟩ = some (.int .i64 0) ∧ w'.cell? ⟨g3, 0, none⟩ = some (.slice (some D) 2 c) ∧ w'.cell? ⟨g4, 0, none⟩ = some (.int .i64 0)) (go_keep)
    ((refine step_app (by rfl) _ _ _ (by rfl) w.heap.size 68 _ 2 32 Try.underlying45 pieceInfo rfl (by decide) (by decide) none 0 0 [] (by rfl) (World.ownsRow_nil _ _ _ _) _ _ _ (pcells (0, some D, 2, c)) (by rfl) (rd_piece _ _ _) (pcells_one1 _) (by omega) (by simp) ?_; intro A5 c5 w5 hown5 hcap5 hcm5 hbel5 hgrow5; have hc5 := cell_under hbel5; have hf5 := frozen_under hbel5))
  all_goals
    go_wp2_with fail
    go_end0
    have hbw : Below w.heap.size w w5 := by
      refine Below.trans ?_ hbel5
      (repeat (first | with_reducible exact (Below.refl _ _) | with_reducible refine Below.drew ?_ | (with_reducible refine Below.set4 ?_ ?side _ _ _ _; case side => (first | omega | (simp; omega) | (simp; done))) | (with_reducible refine Below.setCell ?_ ?side _; case side => (first | omega | (simp; omega) | (simp; done))) | (with_reducible refine Below.alloc ?_ ?side _; case side => (first | omega | (simp; omega) | (simp; done)))))
    have hB2 : Blk w5 g2 45 #[.slice none 0 0] := h2.carry hbw
    refine ⟨A5, c5, rfl, hB2.set_ 0 _, ?_, w5, hbw, rfl⟩
    have h5 : w5.ownsRow w.heap.size 68 2 (.slice A5 1 c5) 1 (pcells (0, some D, 2, c)) := by simpa using hown5
    exact ownsRow_setCell_below h5 F2.1 _
theorem step_appG {P : Program} {w : World} {ops : Array Oper} {o : Oper} {a : Act} {K : Act → World → Prop} {Q : Exit → Act → World → Prop} {E' : Prop} (hg : o.guard = none) (s x : Operand) (t : TypeId)
    (ho : o.op = .call { callee := .builtin .append, args := #[s, x], argTypes := #[t, t] })
    (base : Nat) (E : TypeId) (ht : P.underlying t = some (.slice E)) (hinfo : (P.info? E).map (fun i => (i.zero, i.size, i.bytes)) = some (some (.int .u8 0), 1, 1))
    (A0 : Option Addr) (n0 c0 : Nat) (us : List UInt8) (hs : a.eval s = .slice A0 n0 c0) (hn0 : us.length = n0) (hown : OwnB w base E A0 c0 us)
    (A : Option Addr) (m0 c : Nat) (bs : List UInt8) (hx : a.eval x = .slice A m0 c) (hm0 : bs.length = m0) (hr : RdB w A bs)
    (zs : List UInt8) (hz : us ++ bs = zs) (k : Nat) (hk : n0 + m0 = k) (hbytes : n0 + m0 ≤ 140737488355328) (hbase : base ≤ w.heap.size)
    (h : ∀ A' c' w', OwnB w' base E A' c' zs → k ≤ c' → c' ≤ 9223372036854775807 → Below base w w' → K (a.put o.dst (.slice A' k c')) w') :
    if Region.wanted o (yielded ops a.tmps) = true then Oper.wp P o a w K Q else E' := by
  subst hz; subst hn0; subst hm0; subst hk
  refine step_app hg s x t ho base E (.int .u8 0) 1 1 ht hinfo rfl (by decide) (by decide) A0 c0 us.length (u8s us) hs hown A bs.length c (u8s bs) hx hr (u8s_one bs) (by omega) hbase fun A' c' w' h2 h3 h4 h5 _ => ?_
  rw [← u8s_append, ← List.length_append] at h2
  exact h A' c' w' h2 h3 (by unfold maxLen at h4; omega) h5

theorem own_grown {w0 w' : World} {base : Nat} {e : TypeId} {size n : Nat} {v : Value} {xs : List Value} {row : Option Nat} (h : w0.ownsRow base e size v n xs) (hb : w0.grownBy w' row) (hne : ∀ k, v.ownBlock = some k → some k ≠ row) : w'.ownsRow base e size v n xs := by
  refine ⟨h.1, ?_⟩
  rcases h.2 with h2 | ⟨g, cap, cur, hv, hg, hh, r⟩
  · exact .inl h2
  · exact .inr ⟨g, cap, cur, hv, hg, (hb.block g (Array.getElem?_eq_some_iff.1 hh).1 (hne g (by rw [hv]; rfl))).trans hh, r⟩

set_option maxRecDepth 100000 in
set_option maxHeartbeats 2000000 in
theorem gMerged_one (b off c : Nat) (o : Int) (D : Option Addr) (n d : Nat) (bs : List UInt8) (hn : bs.length = n) (w : World) (hc : 1 ≤ c) (hm : c ≤ 9223372036854775807) (hnm : n ≤ 4611686018427387903 / 32768) (h0 : w.cell? ⟨b, off, none⟩ = some (.int .i64 o)) (h1 : w.cell? ⟨b, off + 1, none⟩ = some (.slice D n d)) (hD : RdB w D bs) :
    Calls Try.prog 36 #[.slice (some ⟨b, off, none⟩) 1 c] w fun e w' => ∃ A' c' D' d', e = .returned (.slice A' 1 c') ∧ One w' w.heap.size A' c' (o, D', n, d') ∧ w'.ownsRow w.heap.size 5 1 (.slice D' n d') n (u8s bs) ∧ n ≤ d' ∧ d' ≤ 9223372036854775807 ∧ 1 ≤ c' ∧ c' ≤ 9223372036854775807 ∧ Below w.heap.size w w' := by
  have HN := Lib.hid hn
  have HD := Lib.hid hD
  clear hn hD
  go_enter Try.func36, Try.ntmps36
  go_wp2_with fail
  refine wp_loop_rounds 2 ?_
  rw [rounds_succ]
  go_upto_region 6 with (fail)
  refine wp_world (fun w' => Blk w' w.heap.size 68 #[.int .i64 o, .slice D n d] ∧ RdB w' D bs ∧ Below w.heap.size w w') ⟨Blk.new _ _ _, Rd.alloc HD.out _, (Below.refl _ _).alloc (Nat.le_refl _) _⟩ ?_
  rintro w1 ⟨hP, hD1, hb1⟩
  have FP := hP.two
  have hgl := hP.lt
  have HD1 := Lib.hid hD1
  have HB1 := Lib.hid hb1
  clear h0 h1 HD hD1 hb1
  go_quiet (fail)
  go_upto_region 8 with (fail)
  refine wp_world (fun w' => Blk w' w.heap.size 68 #[.int .i64 o, .slice D n d] ∧ RdB w' D bs ∧ Below w.heap.size w w') ⟨hP.drewN _, Rd.drewN HD1.out _, ⟨HB1.out.os, HB1.out.tape, HB1.out.output, HB1.out.size, HB1.out.block⟩⟩ ?_
  clear FP hgl hP HD1 HB1
  rintro w2 ⟨hP, hD2, hb2⟩
  have FP := hP.two
  have hgl := hP.lt
  have HD2 := Lib.hid hD2
  have HB2 := Lib.hid hb2
  clear hD2 hb2 hP
  go_region_held3 (fun w' => w'.cell? ⟨w.heap.size, 0, none⟩ = some (.int .i64 o) ∧ w'.cell? ⟨w.heap.size, 1, none⟩ = some (.slice D n d)) (go_keep)
    (first
      | (refine step_app (by rfl) _ _ _ (by rfl) (w.heap.size + 1) 68 _ 2 32 Try.underlying45 pieceInfo rfl (by decide) (by decide) none 0 0 [] (by rfl) (World.ownsRow_nil _ _ _ _) _ _ _ (pcells (o, A5, n, c5)) (by rfl) (rd_piece _ _ _) (pcells_one1 _) (by omega) (by first | omega | (simp; omega)) ?_; intro A6 c6 w6 hown6 hcap6 hcm6 hbel6 hgrow6; have hc6 := cell_under hbel6; have hO6 := own_grown (World.ownsRow.alloc hO5 _) hgrow6 (fun k hk => by simp [Value.ownBlock]))
      | (refine step_appG (by rfl) _ _ _ (by rfl) (w.heap.size + 1) 5 Try.underlying43 u8_infoG (some ⟨w2.heap.size, 0, none⟩) 0 0 [] (by rfl) rfl (OwnB.made _ _ _ (by first | omega | (simp; omega))) D n d bs (by rfl) HN.out (Rd.alloc HD2.out _) bs rfl n (by omega) (by omega) (by first | omega | (simp; omega)) ?_; intro A5 c5 w5 hO5 hc5 hm5 hb5; have hu5 := cell_under hb5; have hz5 : w.heap.size + 1 ≤ w5.heap.size := by have := hb5.size; simp at this; omega))
  all_goals
    have hz6 := hbel6.size
    have h6 : w6.ownsRow (w.heap.size + 1) 68 2 (.slice A6 1 c6) 1 (pcells (o, A5, n, c5)) := by simpa using hown6
    have hR6 : w6.ownsRow (w.heap.size + 1) 5 1 (.slice A5 n c5) n (u8s bs) := by have h7 := hO6; rw [HN.out] at h7; exact h7
    have hb6 : Below w.heap.size w w6 := by
      refine Below.trans (HB2.out) ?_
      have h7 := hbel6.mono (show w.heap.size ≤ w.heap.size + 1 by omega)
      refine Below.trans ?_ h7
      have h8 := hb5.mono (show w.heap.size ≤ w.heap.size + 1 by omega)
      refine Below.alloc (Below.trans ?_ h8) (by omega) _
      (repeat (first | with_reducible exact (Below.refl _ _) | with_reducible refine Below.drew ?_ | (with_reducible refine Below.set4 ?_ ?side _ _ _ _; case side => (first | omega | (simp; omega) | (simp; done))) | (with_reducible refine Below.setCell ?_ ?side _; case side => (first | omega | (simp; omega) | (simp; done))) | (with_reducible refine Below.alloc ?_ ?side _; case side => (first | omega | (simp; omega) | (simp; done)))))
    have H6 := Lib.hid h6
    have HR6 := Lib.hid hR6
    have HB6 := Lib.hid hb6
    have hc6' : 1 ≤ c6 := by omega
    have hm6' : c6 ≤ 9223372036854775807 := by unfold maxLen at hcm6; omega
    clear h6 hR6 hb6 hown6 hO6 hbel6 hgrow6 hb5 hu5 hc6 hO5 HD2 HB2 FP hcap6 hcm6 hz6
    go_wp2_with fail
    rw [rounds_succ]
    go_wp2_with fail
    go_ret
    exact ⟨A6, c6, A5, c5, rfl, own_mono H6.out (by omega), own_mono HR6.out (by omega), hc5, hm5, hc6', hm6', HB6.out⟩

/-- A gather with one piece may be. -/
theorem gCheck_two (b c d : Nat) (D : Option Addr) (f win : Int) (hf : 2 ≤ f) (h1 : 2 ≤ win) (h2 : win ≤ 4611686018427387903) (w : World) (hc : 1 ≤ c) (hm : c ≤ 9223372036854775807) (h0 : w.cell? ⟨b, 0, none⟩ = some (.int .i64 0)) (h3 : w.cell? ⟨b, 1, none⟩ = some (.slice D 2 d)) :
    Calls Try.prog 26 #[.agg #[.int .i64 0, .slice (some ⟨b, 0, none⟩) 1 c, .int .i64 f, .int .i64 win]] w fun e w' => e = .returned (.int .i64 0) ∧ Below w.heap.size w w' := by
  have hg := World.block_lt_of_cell? w _ h0
  have hbz : ∀ o1 o2, Below w.heap.size w ((w.alloc o1).alloc o2) := fun o1 o2 => ((Below.refl _ _).alloc (Nat.le_refl _) _).alloc (by simp) _
  go_enter Try.func26, Try.ntmps26
  go_wp2_with fail
  refine wp_loop_rounds 2 ?_
  rw [rounds_succ]
  go_wp2_with fail
  rw [rounds_succ]
  go_wp2_with fail
  all_goals
    go_ret
    exact ⟨by first | rfl | simp, hbz _ _⟩
end Go.Proofs.Ytolhlgalhhdkmab
