/- The contract of sameFrames, where the frames are the same; words for two rows. -/
import Derived.Test.YtenlgfeldkfmiaaFrameAllWalk
import Derived.Test.YtenlgfeldkfmiaaFrameBackWalk
namespace Go.Proofs.Ytenlgfeldkfmiaa
open Go.ChangeShapes Go.WideShapes Go.ChangeAt Go.RowKit
set_option linter.unusedVariables false

set_option maxHeartbeats 2000000 in
theorem sameFrames_eq (A B : Option Addr) (n c d : Nat) (xs ys : List FrM) (hx : xs.length = n) (hy : ys.length = n) (hn : n ≤ 1000) (hf : xs.map (·.f) = ys.map (·.f)) (hm : ∀ x ∈ xs, x.f.rngs.length ≤ 9223372036854775807) (w : World) (hA : FrRd w A xs) (hB : FrRd w B ys) :
    Calls Try.prog 22 #[.slice A n c, .slice B n d] w fun e w' => e = .returned (.bool true) ∧ Below w.heap.size w w' := by
  have HX := Lib.hid hx
  have HY := Lib.hid hy
  have HF := Lib.hid hf
  have HM := Lib.hid hm
  have HA := Lib.hid hA
  have HB := Lib.hid hB
  clear hx hy hf hm hA hB
  go_enter Try.func22, Try.ntmps22
  go_wp2_with fail
  go_loopw [5, 6] (fun ok i wr => ∃ k : Nat, k ≤ n ∧ i = .int .i64 k ∧ ok = .bool true ∧ Below w.heap.size w wr) (fun _ i _ => n - (intOf i).toNat)
  case atStart => exact ⟨0, Nat.zero_le _, rfl, by first | rfl | simp, Below.refl _ _⟩
  case round =>
    obtain ⟨k, hk, rfl, rfl, hb⟩ := hrel
    by_cases hlt : k < n
    · have hxk : k < xs.length := by rw [HX.out]; exact hlt
      have hyk : k < ys.length := by rw [HY.out]; exact hlt
      have hxm : xs.getD k fmn ∈ xs := by simp [List.getD, hxk]
      have hym : ys.getD k fmn ∈ ys := by simp [List.getD, hyk]
      have hff : (xs.getD k fmn).f = (ys.getD k fmn).f := by
        have h := congrArg (fun l => l[k]?) HF.out
        simp only [List.getElem?_map, List.getElem?_eq_getElem hxk, List.getElem?_eq_getElem hyk, Option.map_some, Option.some.injEq] at h
        simp only [List.getD, List.getElem?_eq_getElem hxk, List.getElem?_eq_getElem hyk, Option.getD_some]
        exact h
      have hrl := HM.out _ hxm
      have hA := HA.out.below hb
      have hB := HB.out.below hb
      obtain ⟨b, off, rfl, hcell⟩ := hA.at_ (by omega)
      obtain ⟨b', off', rfl, hcell'⟩ := hB.at_ (by omega)
      have hX := hA.2 _ hxm
      have hY := hB.2 _ hym
      have cA := hcell k hxk
      have cB := hcell' k hyk
      generalize xs.getD k fmn = x at *
      generalize ys.getD k fmn = y at *
      obtain ⟨f, xA, xc, xB, xd⟩ := x
      obtain ⟨f', yA, yc, yB, yd⟩ := y
      obtain rfl : f = f' := hff
      have p0 := cA 0 _ (by decide) rfl
      have p1 := cA 1 _ (by decide) rfl
      have p2 := cA 2 _ (by decide) rfl
      have p3 := cA 3 _ (by decide) rfl
      have p4 := cA 4 _ (by decide) rfl
      have p5 := cA 5 _ (by decide) rfl
      have p6 := cA 6 _ (by decide) rfl
      have q0 := cB 0 _ (by decide) rfl
      have q1 := cB 1 _ (by decide) rfl
      have q2 := cB 2 _ (by decide) rfl
      have q3 := cB 3 _ (by decide) rfl
      have q4 := cB 4 _ (by decide) rfl
      have q5 := cB 5 _ (by decide) rfl
      have q6 := cB 6 _ (by decide) rfl
      rw [Nat.add_zero] at p0 q0
      have hSF : ∀ W, Below wr.heap.size wr W → Calls Try.prog 17 #[.agg (frcells f xA xc xB xd), .agg (frcells f yA yc yB yd)] W fun e w' => e = .returned (.bool true) ∧ Below W.heap.size W w' := fun W hW => by
        have h := sameFrame_any f f xA xc xB xd yA yc yB yd W hrl (RdX.below hX.1 hW) (hX.2.1.below hW) (RdX.below hY.1 hW) (hY.2.1.below hW)
        rwa [sameF_refl] at h
      have HSF := Lib.hid hSF
      have hfacts : ∀ w', Below wr.heap.size wr w' → w'.cell? ⟨b, off + k * 7, none⟩ = some (.int .i64 f.kind) ∧ w'.cell? ⟨b, off + k * 7 + 1, none⟩ = some (.int .i64 f.id) ∧ w'.cell? ⟨b, off + k * 7 + 2, none⟩ = some (.int .i64 f.off) ∧ w'.cell? ⟨b, off + k * 7 + 3, none⟩ = some (.bool f.fin) ∧ w'.cell? ⟨b, off + k * 7 + 4, none⟩ = some (.int .i64 f.code) ∧ w'.cell? ⟨b, off + k * 7 + 5, none⟩ = some (.slice xA f.rngs.length xc) ∧ w'.cell? ⟨b, off + k * 7 + 6, none⟩ = some (.slice xB f.data.length xd) ∧ w'.cell? ⟨b', off' + k * 7, none⟩ = some (.int .i64 f.kind) ∧ w'.cell? ⟨b', off' + k * 7 + 1, none⟩ = some (.int .i64 f.id) ∧ w'.cell? ⟨b', off' + k * 7 + 2, none⟩ = some (.int .i64 f.off) ∧ w'.cell? ⟨b', off' + k * 7 + 3, none⟩ = some (.bool f.fin) ∧ w'.cell? ⟨b', off' + k * 7 + 4, none⟩ = some (.int .i64 f.code) ∧ w'.cell? ⟨b', off' + k * 7 + 5, none⟩ = some (.slice yA f.rngs.length yc) ∧ w'.cell? ⟨b', off' + k * 7 + 6, none⟩ = some (.slice yB f.data.length yd) := fun w' hw' => ⟨cell_keep hw' p0, cell_keep hw' p1, cell_keep hw' p2, cell_keep hw' p3, cell_keep hw' p4, cell_keep hw' p5, cell_keep hw' p6, cell_keep hw' q0, cell_keep hw' q1, cell_keep hw' q2, cell_keep hw' q3, cell_keep hw' q4, cell_keep hw' q5, cell_keep hw' q6⟩
      have HFA := Lib.hid hfacts
      have hk0 : (0 : Int) ≤ (k : Int) := by omega
      have hk1 : (k : Int) < (n : Int) := by omega
      have HBW := Lib.hid hb
      clear hfacts p0 p1 p2 p3 p4 p5 p6 q0 q1 q2 q3 q4 q5 q6 hcell hcell' cA cB hA hB hX hY hSF hxk hyk hxm hym HA HB HF HM HX HY hb
      go_upto_region 5 with (fail)
      refine wp_region_quiet (C := fun w' => Below (wr).heap.size (wr) w') (by kernel_rfl) (by kernel_rfl) (Below.refl _ _).drew ?_
      repeat (
        with_reducible refine wpQuiet_step ?_
        intro K hK
        go_simp
        first
          | (refine hK _ ?_; clear hK K)
          | (apply Exists.intro
             refine ⟨fun w' hw' => ?_, hK _ ?_⟩
             first
               | (go_at_call 17; exact (HSF.out _ hw').mono (fun e w'' ⟨he, hb⟩ => ⟨he, hw'.trans (hb.mono hw'.size)⟩))
               | (have FF := HFA.out w' hw'; go_simp; done)
               | (have FF := HFA.out w' hw'; go_simp; exact rfl)
             clear hK K))
      refine wpQuiet_nil ?_
      intro wq hwq
      have hb2 := HBW.out.trans (hwq.mono HBW.out.size)
      clear hwq HFA HSF
      go_wp2_with fail
      go_roundw
      case rel => exact ⟨k + 1, by omega, by go_num, rfl, hb2⟩
      case measure => simp [intOf]; omega
    · obtain rfl : k = n := by omega
      go_wp2_with fail
      go_ret
      exact ⟨rfl, hb⟩

/-- Two rows of different types lie apart. -/
theorem own_types {w : World} {base base' : Nat} {e e' : TypeId} {size size' n n' : Nat} {v v' : Value} {xs xs' : List Value} (h : w.ownsRow base e size v n xs) (h' : w.ownsRow base' e' size' v' n' xs') (he : e ≠ e') : ∀ k, v.ownBlock = some k → some k ≠ v'.ownBlock := fun k hk hk' => by
  rcases h.2 with ⟨h2, _⟩ | ⟨g, cap, cur, hv, _, hh, _⟩
  · rw [h2] at hk; cases hk
  · rcases h'.2 with ⟨h2, _⟩ | ⟨g', cap', cur', hv', _, hh', _⟩
    · rw [h2] at hk'; cases hk'
    · have e1 : g = k := by rw [hv] at hk; exact Option.some.inj hk
      have e2 : k = g' := by rw [hv'] at hk'; exact Option.some.inj hk'
      subst e1; subst e2
      rw [hh] at hh'
      injection hh' with h3
      injection h3 with _ h4
      exact he h4
theorem own_grownR {w0 w' : World} {base : Nat} {e : TypeId} {size n : Nat} {v : Value} {xs : List Value} {row : Option Nat} (h : w0.ownsRow base e size v n xs) (hb : w0.grownBy w' row) (hne : ∀ k, v.ownBlock = some k → some k ≠ row) : w'.ownsRow base e size v n xs := by
  refine ⟨h.1, ?_⟩
  rcases h.2 with h2 | ⟨g, cap, cur, hv, hg, hh, r⟩
  · exact .inl h2
  · exact .inr ⟨g, cap, cur, hv, hg, (hb.block g (Array.getElem?_eq_some_iff.1 hh).1 (hne g (by rw [hv]; rfl))).trans hh, r⟩
/-- Another row grows. -/
theorem FrRow.other {w w' : World} {base : Nat} {A : Option Addr} {c : Nat} {xs : List FrM} {bo : Option Nat} (h : FrRow w base A c xs) (hg : w.grownBy w' bo) (hs : w.heap.size ≤ w'.heap.size) (hne : ∀ k, A.map (·.block) = some k → some k ≠ bo) (hoff : ∀ x ∈ xs, InOff w bo x.A ∧ InOff w bo x.B) : FrRow w' base A c xs :=
  ⟨own_grownR h.1 hg (fun k hk => hne k (by rw [blk_of] at hk; exact hk)), fun x hx => ⟨⟨Rd.grown (h.2 x hx).1.1 (hoff x hx).1 hg, Rd.grown (h.2 x hx).1.2.1 (hoff x hx).2 hg, (h.2 x hx).1.2.2⟩, (h.2 x hx).2.1.keep hs, (h.2 x hx).2.2.keep hs⟩⟩
/-- append of bytes, and where the new row lies. -/
theorem wpList_addY {P : Program} {w : World} {ops : Array Oper} {rest : List Oper} {o : Oper} {a : Act} {Q : Exit → Act → World → Prop} (hg : o.guard = none) (s x : Operand) (t : TypeId)
    (ho : o.op = .call { callee := .builtin .append, args := #[s, x], argTypes := #[t, t] })
    (E : TypeId) (ht : P.underlying t = some (.slice E)) (hinfo : (P.info? E).map (fun i => (i.zero, i.size, i.bytes)) = some (some (.int .u8 0), 1, 1))
    (base : Nat) (A : Option Addr) (m c : Nat) (us : List UInt8) (hl : us.length = m) (hs : a.eval s = .slice A m c) (hown : OwnB w base E A c us)
    (D : Option Addr) (n d : Nat) (bs : List UInt8) (hn : bs.length = n) (hx : a.eval x = .slice D n d) (hr : RdB w D bs) (h1 : 0 < n) (k : Nat) (hk : m + n = k) (hm : k ≤ 140737488355328) (hbase : base ≤ w.heap.size)
    (h : ∀ g cap w', OwnB w' base E (some ⟨g, 0, none⟩) cap (us ++ bs) → k ≤ cap → cap ≤ 9223372036854775807 → Below base w w' → w.grownBy w' (A.map (·.block)) → (A.map (·.block) = some g ∨ g = w.heap.size) → g < w'.heap.size → wpList P ops Q rest (a.put o.dst (.slice (some ⟨g, 0, none⟩) k cap)) w') :
    wpList P ops Q (o :: rest) a w := by
  subst hk
  subst hl
  subst hn
  obtain ⟨i, hi, hz, hsize, hby⟩ := info_parts hinfo
  obtain ⟨b, off, rfl, hc⟩ := hr.2 (by simpa using h1)
  have hown' : w.ownsRow base E 1 (.slice A us.length c) us.length (u8s us) := hown
  refine wpList_append_lies w hg s x t ho base E i _ 1 1 ht hi hz hsize hby rfl (by decide) _ us.length (u8s us) hs hown' ⟨b, off, none⟩ bs.length d (u8s bs) hx (by rw [u8s_length]; omega) ?_ (u8s_one bs) h1 (by unfold maxLen; omega) (by omega) hbase _ rfl fun g cap w' h2 h3 h4 h5 => ?_
  · intro j u hu
    rw [add_none]; exact hc j u hu
  · rw [blk_of] at h3 h4
    have h2' : OwnB w' base E (some ⟨g, 0, none⟩) cap (us ++ bs) := by
      unfold OwnB; rw [u8s_append, List.length_append]; exact h2
    have hcap := h2'.cap
    rw [List.length_append] at hcap
    exact h g cap w' h2' hcap.1 (by have := hcap.2; unfold maxLen at this; omega) ((Below.refl _ _).grown (by rw [← blk_of A us.length c] at h3; exact h3) hbase (fun k hk => (hown'.lt k hk).1)) h3 h4 h5
theorem fdec_three : fdec [3] = (fnil, 0, 2) := by
  have h : decR [3] = (3, 1, 0) := by decide
  unfold fdec yNum
  simp only [h]
  rfl
theorem fall_three : fall [3] = ([], 2) := by
  unfold fall
  rw [fallN, if_neg (by decide), if_neg (by decide), fdec_three]
  rfl
end Go.Proofs.Ytenlgfeldkfmiaa
