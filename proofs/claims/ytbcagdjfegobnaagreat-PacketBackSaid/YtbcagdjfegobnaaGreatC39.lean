/- Texts of the proof, laid together: Gate6 FlowY FlowZ Gate10. -/
import Derived.Test.YtbcagdjfegobnaaGreatC34
import Derived.Test.YtbcagdjfegobnaaGreatC36
import Derived.Test.YtbcagdjfegobnaaGreatC38
import Derived.Test.YtbcagdjfegobnaaGreatC30
/- Gates whose connections have just begun: the contract of desk.flush: nothing is told. -/
namespace Go.Proofs.YtbcagdjfegobnaaGreat
open Go.ChangeShapes Go.WideShapes Go.ChangeAt Go.RowKit
set_option linter.unusedVariables false

section
variable {P : Program} {ops : Array Oper} {o : Oper} {a : Act} {w : World} {K : Act → World → Prop} {Q : Exit → Act → World → Prop} {E' : Prop}
/-- The laws for great structs as_v steps of a region that draws. -/
theorem step_loadR (hg : o.guard = none) (ty : TypeId) (x : Operand) (ho : o.op = .load ty x) (b off : Nat) (hx : a.eval x = .pointer (some ⟨b, off, none⟩)) (p : Array Value) (d : TypeDesc)
    (hu : P.underlying ty = some d) (hd : (match d with | .struct _ | .array _ _ => true | _ => false) = true) (hi : (P.info? ty).map (·.size) = some p.size) (hc : ∀ j v, p[j]? = some v → w.cell? ⟨b, off + j, none⟩ = some v)
    (h : K (a.put o.dst (.agg p)) w) : if Region.wanted o (yielded ops a.tmps) = true then Oper.wp P o a w K Q else E' := by
  rw [if_pos (by simp [Region.wanted, hg])]
  exact wp_loadR ty x ho b off hx p d hu hd hi hc h
theorem step_storeP (hgd : o.guard = none) (ty : TypeId) (x y : Operand) (ho : o.op = .store ty x y) (g off : Nat) (hx : a.eval x = .pointer (some ⟨g, off, none⟩)) (p : Array Value) (hy : a.eval y = .agg p)
    (t : TypeId) (cs : Array Value) (hg : Blk w g t cs) (hi : (P.info? ty).map (·.size) = some p.size) (hs : off + p.size ≤ cs.size) (h1 : ∀ v ∈ p.toList, v.oneCell' = true) (cs' : Array Value) (hcs : (cs.toList.take off ++ p.toList ++ cs.toList.drop (off + p.size)).toArray = cs')
    (h : ∀ w', Blk w' g t cs' → Wr g w w' → K (a.put o.dst undef) w') : if Region.wanted o (yielded ops a.tmps) = true then Oper.wp P o a w K Q else E' := by
  rw [if_pos (by simp [Region.wanted, hgd])]
  exact wp_storeP ty x y ho g off hx p hy t cs hg hi hs h1 cs' hcs h
end

set_option maxRecDepth 100000 in
set_option maxHeartbeats 4000000 in
theorem flush_beg (base gd : Nat) (g : GtD) (A : Option Addr) (n c : Nat) (xs : List NtB) (O : Option Addr) (m co : Nat) (ms : List MlB) (w : World) (h : DkV w base gd g A n c xs O m co ms) (hbase : base ≤ w.heap.size) (hn3 : n ≤ 3) (hr : ∀ x ∈ xs, BgR x.cs x.last) (n0 : 0 ≤ g.now) (n1 : g.now ≤ 1099511627776) :
    Calls Tryz.prog 62 #[.pointer (some ⟨gd, 0, none⟩)] w fun e w' => e = .returned (.tuple #[]) ∧ (∃ A' c', DkV w' base gd g A' n c' xs O m co ms) ∧ Below base w w' := by
  have HV := Lib.hid h
  have HR := Lib.hid hr
  have hgd := h.hg
  have hgl := h.d.lt
  have f3 : w.cell? ⟨gd, 3, none⟩ = some (.slice A n c) := by rw [h.d.cell]; rfl
  have hnc := h.nt.cap
  rw [h.hn] at hnc
  obtain ⟨hnc1, hnc2⟩ := hnc
  clear h hr
  go_enter Tryz.func62, Tryz.ntmps62
  go_wp2_with fail
  go_loopw [2, 16] (fun s2 s16 wr => ∃ (k : Nat) (D : Option Addr) (cd : Nat), k ≤ n ∧ s16 = .int .i64 k ∧ s2 = .slice D k cd ∧ OwnX ntc 29 wr w.heap.size 53 D cd (xs.take k) ∧ Below w.heap.size w wr) (fun _ s16 _ => n - (intOf s16).toNat)
  case atStart => exact ⟨0, none, 0, Nat.zero_le _, rfl, rfl, OwnX.nil _ _ _, Below.refl _ _⟩
  case round =>
    obtain ⟨k, D, cd, hk, rfl, rfl, hO, hbr⟩ := hrel
    have HO := Lib.hid hO
    have HBR := Lib.hid hbr
    have hwr := hbr.size
    clear hO
    by_cases hlt : k < n
    -- [[round1
    · have hkx : k < xs.length := by rw [HV.out.hn]; exact hlt
      have hmem : xs.getD k ntn ∈ xs := by simp [List.getD, hkx]
      have hbg := HR.out _ hmem
      have hTL : (xs.take k).length = k := by rw [List.length_take]; omega
      have HTL := Lib.hid hTL
      obtain ⟨b, off, rfl, hcell⟩ := (RdX.below HV.out.nt.rd hbr).nt (by omega)
      have hc := hcell k hkx
      have HTK := Lib.hid (takeD xs k ntn hkx)
      generalize xs.getD k ntn = x at *
      have HC := Lib.hid hc
      have HBG := Lib.hid hbg
      have hkn : (k : Int) < (n : Int) := by omega
      clear hcell hc hkx hbr f3 hmem hbg hTL
      go_upto_region 4 with (first
        | refine wpList_loadR rfl 53 (.tmp 18) rfl b (off + k * 29) rfl (nta x) _ Tryz.underlying53 rfl (by rw [nta_size]; kernel_rfl) HC.out ?_
        | (refine wpList_storeP rfl 53 (.tmp 4) (.tmp 19) rfl wr.heap.size 0 rfl (nta x) rfl 53 _ (Blk.new _ _ _) (by rw [nta_size]; kernel_rfl) (by rw [nta_size]; decide) (nta_one x) _ (splice_all _ _ (by rw [nta_size]; rfl)) ?_
           intro w2 hN hw2
           have hO2 := Lib.hid ((HO.out.alloc _).wr hw2 (fun a ha => by have := (HO.out.lt (n := k) a.block (by rw [slice_own, ha]; rfl)).2; omega))
           have hb2 := Lib.hid (hw2.trans_below (HBR.out.alloc hwr _) hwr)))
      obtain ⟨q, hq⟩ : ∃ q, wr.heap.size = q := ⟨_, rfl⟩
      rw [hq] at hN ⊢
      have hqw : w.heap.size ≤ q := by omega
      have hqs : q < w2.heap.size := hN.lt
      clear hw2 hq HC HO HBR hwr
      go_wp2_with fail
      refine wp_loop_rounds 1 ?_
      rw [rounds_succ]
      go_upto_region 6 with (fail)
      have HN := Lib.hid hN
      have f1 : w2.cell? ⟨gd, 1, none⟩ = some (.int .i64 g.now) := by rw [(HV.out.d.carry hb2.out).cell]; rfl
      clear hN
      go_cut [5, 6, 7, 8] (fun s5 s6 s7 s8 wx => s6 = .int .i64 0 ∧ s7 = .slice none 0 0 ∧ s8 = .int .i64 0 ∧ Below w2.heap.size w2 wx)
      case first =>
        -- [[fst
        refine wp_flow (fun k => decide (k < 14)) (fun k => k == 7 || k == 13) 90 [0, 1, 2, 3, 4, 5, 6, 7, 8, 9, 10, 11, 12, 13] (fun w' => Below w2.heap.size w2 w')
          (fun k a v w' => (k = 7 → ∃ cs, v = .tuple #[.agg cs, .int .i64 0, .slice none 0 0, .int .i64 0] ∧ BgR cs x.last) ∧ (k = 13 → ∃ g, v = .pointer (some ⟨g, 0, none⟩) ∧ w2.heap.size ≤ g ∧ ∃ z, z.size = 24 ∧ Blk w' g 43 z))
          (by kernel_rfl) ?hflB ?hpuB ?hksB (fun _ _ _ _ _ h => h) rfl ?hst ?hC ?hfl
        case hflB => kernel_rfl
        case hpuB => kernel_rfl
        case hksB => kernel_rfl
        case hst => exact ⟨fun w0 w1 h1 hb => h1.trans (hb.mono h1.size), fun k a v w0 w1 hW hb => ⟨hW.1, fun e => by obtain ⟨g1, e1, hg1, z, hz, hB⟩ := hW.2 e; exact ⟨g1, e1, hg1, z, hz, hB.carry hb⟩⟩, fun k a b v w0 _ h => h⟩
        case hC => exact (Below.refl _ _).drew
        case hfl =>
          refine fq 23 (.pointer (some ⟨q, 5, none⟩)) (by kernel_rfl) (by kernel_rfl) (by kernel_rfl) (by kernel_rfl) (fun w => by kernel_rfl) ?_
          refine fqR 24 x.cs 43 (.tmp 23) q 5 _ (by kernel_rfl) (by kernel_rfl) (by kernel_rfl) (by kernel_rfl) (by kernel_rfl) (by kernel_rfl) Tryz.underlying43 rfl (by rw [x.sz]; kernel_rfl) (fun w hw => (HN.out.carry hw.1).ntcs) ?_
          refine fq 25 (.pointer (some ⟨gd, 0, none⟩)) (by kernel_rfl) (by kernel_rfl) (by kernel_rfl) (by kernel_rfl) (fun w => by kernel_rfl) ?_
          refine fq 26 (.pointer (some ⟨gd, 0, none⟩)) (by kernel_rfl) (by kernel_rfl) (by kernel_rfl) (by kernel_rfl) (fun w => by kernel_rfl) ?_
          refine fq 27 (.pointer (some ⟨gd, 0, none⟩)) (by kernel_rfl) (by kernel_rfl) (by kernel_rfl) (by kernel_rfl) (fun w => by kernel_rfl) ?_
          refine fq 28 (.pointer (some ⟨gd, 1, none⟩)) (by kernel_rfl) (by kernel_rfl) (by kernel_rfl) (by kernel_rfl) (fun w => by kernel_rfl) ?_
          refine fq1 29 (.int .i64 g.now) 3 (.tmp 28) gd 1 (.int .i64) (by kernel_rfl) (by kernel_rfl) (by kernel_rfl) (by kernel_rfl) (by kernel_rfl) (by kernel_rfl) (by kernel_rfl) rfl (fun w hw => cell_on hw.1 (by have := hb2.out.size; omega) f1) ?_
          refine fcall 30 104 #[.agg x.cs, .int .i64 g.now] (by kernel_rfl) (by kernel_rfl) (by kernel_rfl) (by kernel_rfl) (fun w => by kernel_rfl) (fun w hw => (HBG.out.flush g.now n0 n1 w).mono ?hx1) ?_
          case hx1 =>
            rintro e w' ⟨cs, rfl, hcs, hb⟩
            exact ⟨_, rfl, ⟨fun _ => ⟨cs, rfl, hcs⟩, fun e => absurd e (by decide)⟩, hw.1.trans (hb.mono hw.1.size), hb⟩
          rintro v ⟨w', hw', hW⟩
          obtain ⟨cs, rfl, hcs⟩ := hW.1 rfl
          clear hW hw' w'
          refine fq 22 (.tuple #[.agg cs, .int .i64 0, .slice none 0 0, .int .i64 0]) (by kernel_rfl) (by kernel_rfl) (by kernel_rfl) (by kernel_rfl) (fun w => by kernel_rfl) ?_
          refine fq 31 (.agg cs) (by kernel_rfl) (by kernel_rfl) (by kernel_rfl) (by kernel_rfl) (fun w => by kernel_rfl) ?_
          refine fq 32 (.int .i64 0) (by kernel_rfl) (by kernel_rfl) (by kernel_rfl) (by kernel_rfl) (fun w => by kernel_rfl) ?_
          refine fq 33 (.slice none 0 0) (by kernel_rfl) (by kernel_rfl) (by kernel_rfl) (by kernel_rfl) (fun w => by kernel_rfl) ?_
          refine fq 34 (.int .i64 0) (by kernel_rfl) (by kernel_rfl) (by kernel_rfl) (by kernel_rfl) (fun w => by kernel_rfl) ?_
          refine fnew 5 (fun w => .pointer (some ⟨w.heap.size, 0, none⟩)) (fun w => w.alloc (.cells #[.bool false, .int .i64 0, .slice none 0 0, .int .i64 0, .slice none 0 0, .slice none 0 0, .int .i64 0, .int .i64 0, .int .i64 0, .int .i64 0, .int .i64 0, .int .i64 0, .int .i64 0, .int .i64 0, .int .i64 0, .int .i64 0, .int .i64 0, .slice none 0 0, .bool false, .slice none 0 0, .int .i64 0, .int .i64 0, .bool false, .int .i64 0] 43)) (by kernel_rfl) (by kernel_rfl) (by kernel_rfl) (by kernel_rfl) (fun w => by kernel_rfl) (fun w hw => ⟨⟨fun e => absurd e (by decide), fun _ => ⟨w.heap.size, rfl, hw.1.size, _, rfl, Blk.new _ _ _⟩⟩, hw.1.alloc hw.1.size _, (Below.refl _ _).alloc (Nat.le_refl _) _⟩) ?_
          rintro v ⟨w', hw', hW⟩
          obtain ⟨g1, rfl, hg1, h4⟩ := hW.2 rfl
          clear h4 hW hw' w'
          refine fend [14, 15, 16, 17] (by kernel_rfl) (by kernel_rfl) ?_
          intro w6 hw6 hF
          have h13 := hF _ List.mem_cons_self
          obtain ⟨g2, e2, hg2, z, hz, hZ⟩ := h13.2 rfl
          obtain rfl : g1 = g2 := by injection e2 with e2; injection e2 with e2; injection e2
          clear h13 hF e2
          refine tstoreP (by kernel_rfl) (by kernel_rfl) 43 (.tmp 5) (.tmp 31) (by kernel_rfl) g1 0 (by kernel_rfl) cs (by kernel_rfl) 43 z hZ (by rw [hcs.size]; kernel_rfl) (by rw [hcs.size, hz]; decide) hcs.one _ (splice_all _ _ (by rw [hz, hcs.size])) ?_
          intro w7 hB7 hw7
          refine tval (some 6) (.int .i64 0) w7 (by kernel_rfl) (by kernel_rfl) (by kernel_rfl) ?_
          refine tval (some 7) (.slice none 0 0) w7 (by kernel_rfl) (by kernel_rfl) (by kernel_rfl) ?_
          refine tval (some 8) (.int .i64 0) w7 (by kernel_rfl) (by kernel_rfl) (by kernel_rfl) ?_
          refine tend ?_
          refine (show ∀ (a : Act) (w : World), Met _ a w → _ from by assumption) _ _ ?_
          go_simp
          refine Met.intro ?_
          refine (show ∀ (a : Act) (w : World), _ → _ from by assumption) _ _ ?_
          (repeat apply Exists.intro)
          refine ⟨?rel, rfl⟩
          exact ⟨rfl, rfl, rfl, hw7.trans_below hw6 hg1⟩
        -- ]]fst
      case rest =>
        obtain ⟨rfl, rfl, rfl, hbx⟩ := hcut
        refine (show ∀ (a : Act) (w : World), Code.wp _ _ _ a w → _ from by assumption) _ _ ?_
        refine wp_world (fun w' => Below w2.heap.size w2 w') hbx ?_
        clear hbx
        rintro w5 hb5
        have HN5 := Lib.hid (HN.out.carry hb5)
        have HO5 := Lib.hid (hO2.out.carry hb5)
        have HB5 := Lib.hid (hb2.out.trans (hb5.mono hb2.out.size))
        have fc : w5.cell? ⟨q, 27, none⟩ = some (.bool false) := HN5.out.ntcs 22 _ HBG.out.closed
        have h25 := hb5.size
        clear hb5 HN hO2 hb2 f1
        go_wp2_with (first
          | refine wpList_loadR rfl 53 (.tmp 4) rfl q 0 rfl (nta x) _ Tryz.underlying53 rfl (by rw [nta_size]; kernel_rfl) HN5.out.whole ?_
          | refine wpList_buildOne rfl 24 53 (.tmp 81) rfl (nta x) rfl Tryz.underlying24 _ 29 312 ntInfo (nta_size _) (nta_size _) (by decide) (by decide) ?_
          | (at_builtin
             refine wpList_appL ntc 29 ntc_one _ rfl (.tmp 80) (.tmp 82) _ rfl w.heap.size 53 _ 312 Tryz.underlying24 ntInfo (nta_size _) (by decide) (by decide) D k cd _ rfl HTL.out (HO5.out.alloc _) _ 1 1 [x] rfl rfl (RdX.oneN _ _ _) _ HTK.out.symm (k + 1) rfl (by omega) (by simp; omega) ?_
             intro A7 c7 w7 hO7 hc7 hm7 hb7 hg7 ha7))
        go_roundw
        case rel => exact ⟨k + 1, A7, c7, by omega, by go_num, rfl, hO7, (HB5.out.alloc (by omega) _).trans hb7⟩
        case measure => simp [intOf]; omega
      -- ]]round1
    -- [[fin
    · obtain rfl : k = n := by omega
      rw [List.take_of_length_le (by rw [HV.out.hn]; exact Nat.le_refl _)] at HO
      have HVr := Lib.hid (HV.out.carry HBR.out)
      have f3 : wr.cell? ⟨gd, 3, none⟩ = some (.slice A k c) := by rw [HVr.out.d.cell]; rfl
      have z3 := HVr.out.d.zs 3
      have hl2 : gd < wr.heap.size := HVr.out.d.lt
      clear hbr
      go_wp2_with fail
      go_end0
      refine ⟨rfl, ⟨D, cd, HV.out.hn, HV.out.hm, hgd, (HVr.out.d.set_ 3 _).as (by rfl), (HO.out.mono hbase).wr (Wr.set _ gd 3 _) (own_ne HO.out HVr.out.d (by decide)), HVr.out.ml.wr (Wr.set _ gd 3 _) (own_ne HVr.out.ml HVr.out.d (by decide)), fun y hy => ⟨(HVr.out.dat y hy).1.wr (Wr.set _ gd 3 _) (own_ne (HVr.out.dat y hy).1 HVr.out.d (by decide)), (HVr.out.dat y hy).2⟩⟩, (Wr.set _ gd 3 _).trans_below (HBR.out.mono hbase) hgd⟩
    -- ]]fin
end Go.Proofs.YtbcagdjfegobnaaGreat
/- A region that draws its order, walked once: append onto nothing. -/
namespace Go.Proofs.YtbcagdjfegobnaaGreat
open Go.RowKit
set_option linter.unusedVariables false

theorem run_append_none {P : Program} (t ty e : TypeId) (i : TypeInfo) (ht : P.underlying t = some (.slice e)) (hi : P.info? e = some i) (X : Option Addr) (cx : Nat) (A : Option Addr) (c : Nat) (w : World) :
    (Builtin.append_ #[t, t] ty #[.slice X 0 cx, .slice A 0 c]).run P w = .ok (.slice X 0 cx) w := by
  cases X <;> cases A <;> simp [Builtin.append_, run_underlying ht, sizeOf, typeInfo, hi, Builtin.lenOf, Builtin.firstCells, storeCells, loadCells, loadCellsFrom]
/-- append onto nothing that has no room: what is made is new. -/
theorem run_app_new {P : Program} {α : Type} (f : α → List Value) (size : Nat) (hone : ∀ (xs : List α), ∀ u ∈ xs.flatMap f, u.oneCell' = true) (t ty : TypeId) (base : Nat) (E : TypeId) (z : Value) (bytes : Nat) (ht : P.underlying t = some (.slice E)) (hinfo : (P.info? E).map (fun i => (i.zero, i.size, i.bytes)) = some (some z, size, bytes)) (hzs : z.cells.size = size) (hsz : 0 < size) (hb1 : 1 ≤ bytes)
    (b : Nat) (w : World) (hown : OwnX f size w base E (some ⟨b, 0, none⟩) 0 []) (A : Option Addr) (m c : Nat) (bs : List α) (hm : bs.length = m) (hr : RdX f size w A bs) (hbytes : m * bytes ≤ 140737488355328) (hbase : base ≤ w.heap.size) :
    ∃ A' c' w', (Builtin.append_ #[t, t] ty #[.slice (some ⟨b, 0, none⟩) 0 0, .slice A m c]).run P w = .ok (.slice A' m c') w' ∧ OwnX f size w' base E A' c' bs ∧ m ≤ c' ∧ c' ≤ 9223372036854775807 ∧ Below w.heap.size w w' := by
  subst hm
  obtain ⟨i, hi, hz, hsize, hby⟩ := info_parts hinfo
  have h63 : 0 + bs.length ≤ maxLen := by
    have : bs.length * 1 ≤ bs.length * bytes := Nat.mul_le_mul_left _ hb1
    unfold maxLen; omega
  obtain ⟨v', w', hrun, h2, h3, h4⟩ := run_append_any (P := P) w base t ty E i z size bytes ht hi hz hsize hby hzs hsz (.slice (some ⟨b, 0, none⟩) 0 0) 0 [] hown A bs.length c (bs.flatMap f) hr (hone bs) h63 (by rw [Nat.zero_add]; exact hbytes) hbase
  obtain ⟨A', c', rfl, hc1, hc2⟩ := own_shape _ h2
  have h2' : OwnX f size w' base E A' c' bs := by
    have h5 := h2
    rw [List.nil_append, Nat.zero_add] at h5
    exact h5
  refine ⟨A', c', w', ?_, h2', by omega, by unfold maxLen at hc2; omega, ?_⟩
  · rw [Nat.zero_add] at hrun; exact hrun
  by_cases h0 : bs.length = 0
  · rw [h0, run_append_none t ty E i ht hi] at hrun
    injection hrun with _ e
    rw [← e]
    exact Below.refl _ _
  · obtain ⟨b1, off, rfl, hcell⟩ := hr.2 (by omega)
    have hg := run_append_grow (P := P) (w := w) t ty E i z ht hi hz ⟨b, 0, none⟩ 0 0 [] (by simp) (fun j v h => by simp at h) ⟨b1, off, none⟩ bs.length c (bs.flatMap f) (by rw [hsize]; exact hr.1) (fun j v h => by rw [add_none]; exact hcell j v h) (by omega) (by unfold maxLen at h63; omega) (by rw [Nat.zero_add, nextslicecap_zero (by omega), hby]; omega)
    rw [hg] at hrun
    injection hrun with _ e
    rw [← e]
    exact (Below.refl _ _).drew.alloc (Nat.le_refl _) _
section
variable {P : Program} {ops : Array Oper} {core ev : Nat → Bool} {C : World → Prop} {W : Nat → Act → Value → World → Prop} {R : World → World → Prop} {Q : Exit → Act → World → Prop} {Fin : List Fact → Act → Prop} {k : Nat} {ks : List Nat} {F : List Fact} {a : Act} {w : World} {ts : List Nat}
/-- .. as_v an event. -/
theorem fapp0 {α : Type} (d : Tmp) (f : α → List Value) (size : Nat) (hone : ∀ (xs : List α), ∀ u ∈ xs.flatMap f, u.oneCell' = true) (s x : Operand) (t : TypeId) (hk : decide (k < ops.size) = true) (hd : (opK ops k).dst = some d) (hw : Region.wanted (opK ops k) (yielded ops a.tmps) = true) (he : ev k = true)
    (ho : (opK ops k).op = .call { callee := .builtin .append, args := #[s, x], argTypes := #[t, t] })
    (base : Nat) (E : TypeId) (z : Value) (bytes : Nat) (ht : P.underlying t = some (.slice E)) (hinfo : (P.info? E).map (fun i => (i.zero, i.size, i.bytes)) = some (some z, size, bytes)) (hzs : z.cells.size = size) (hsz : 0 < size) (hb1 : 1 ≤ bytes)
    (b : Nat) (hs : a.eval s = .slice (some ⟨b, 0, none⟩) 0 0) (A : Option Addr) (m c : Nat) (bs : List α) (hx : a.eval x = .slice A m c) (hm : bs.length = m) (hbytes : m * bytes ≤ 140737488355328)
    (hc : ∀ w, cls ops C F k w → OwnX f size w base E (some ⟨b, 0, none⟩) 0 [] ∧ RdX f size w A bs ∧ base ≤ w.heap.size ∧ (∀ A' c' w', OwnX f size w' base E A' c' bs → m ≤ c' → c' ≤ 9223372036854775807 → Below w.heap.size w w' → W k a (.slice A' m c') w' ∧ C w' ∧ R w w'))
    (h : ∀ v, (∃ w, C w ∧ W k a v w) → flowL P ops ev C W R Fin ks ((k, W k a v) :: F) (a.put (some d) v)) : flowL P ops ev C W R Fin (k :: ks) F a := by
  refine flow_event (opK_some hk) hw he (fun w hcl => ?_) (fun v hv => by rw [hd]; exact h v hv)
  obtain ⟨hown, hr, hbase, hK⟩ := hc w hcl
  obtain ⟨A', c', w', hrun, h1, h2, h3, h4⟩ := run_app_new (P := P) f size hone t (opK ops k).type base E z bytes ht hinfo hzs hsz hb1 b w hown A m c bs hm hr hbytes hbase
  have hfin := hK A' c' w' h1 h2 h3 h4
  unfold execOp
  simp only [ho, resolve, invoke, builtin, Sem.run_bind, Sem.run_pure, Result.andThen_ok, List.map_toArray, List.map_cons, List.map_nil, hs, hx, hrun]
  exact hfin
end
end Go.Proofs.YtbcagdjfegobnaaGreat
/- A region that draws its order, walked once: what is told stays by each step's own proof; stores as_v events. -/
namespace Go.Proofs.YtbcagdjfegobnaaGreat
open Go.RowKit
set_option linter.unusedVariables false

/-- What holds of the class, and what is told, stays. -/
def Stays (C : World → Prop) (V : Nat → Value → World → Prop) (w w' : World) : Prop := (C w → C w') ∧ ∀ k v, V k v w → V k v w'
theorem Stays.refl {C : World → Prop} {V : Nat → Value → World → Prop} (w : World) : Stays C V w w := ⟨id, fun _ _ h => h⟩
section
variable {P : Program} {ops : Array Oper} {core ev : Nat → Bool} {C : World → Prop} {W : Nat → Act → Value → World → Prop} {R : World → World → Prop} {Q : Exit → Act → World → Prop} {Fin : List Fact → Act → Prop} {k : Nat} {ks : List Nat} {F : List Fact} {a : Act} {w : World} {ts : List Nat}
theorem wp_flowS {id : Nat} {a : Act} {w : World} (core ev : Nat → Bool) (sz : Nat) (ks : List Nat) (C : World → Prop) (V : Nat → Value → World → Prop) (hm : P.follows .mixedOrders = true) (hB : flowB ops core sz = true) (hpu : pureB ops core ev = true) (hks : coreL ops core = ks) (hQ : ∀ c a d v w, Q (.panic c) (a.put (some d) v) w → Q (.panic c) a w) (hsz : a.tmps.size = sz)
    (hC : C w.drew) (hfl : flowL P ops ev C (fun k _ v w => V k v w) (Stays C V) (flowFin P ops core C Q) ks [] a) : (Code.region id ops true).wp P Q a w :=
  wp_flowR core ev sz ks C (fun k _ v w => V k v w) (Stays C V) hm hB hpu hks hQ hsz ⟨fun w => Stays.refl w, fun a b c h k => ⟨fun x => k.1 (h.1 x), fun j v x => k.2 j v (h.2 j v x)⟩, fun w w' h k => k.1 h, fun k _ v w w' h r => r.2 k v h, fun k a b v w _ h => h⟩ hC hfl
/-- A struct is stored as_v a whole. -/
theorem fstoreP (hk : decide (k < ops.size) = true) (hd : (opK ops k).dst = none) (hw : Region.wanted (opK ops k) (yielded ops a.tmps) = true) (he : ev k = true) (ty : TypeId) (x y : Operand) (ho : (opK ops k).op = .store ty x y) (g off : Nat) (hx : a.eval x = .pointer (some ⟨g, off, none⟩)) (p : Array Value) (hy : a.eval y = .agg p)
    (t : TypeId) (hi : (P.info? ty).map (·.size) = some p.size) (h1 : ∀ v ∈ p.toList, v.oneCell' = true)
    (hc : ∀ w, cls ops C F k w → ∃ cs, Blk w g t cs ∧ off + p.size ≤ cs.size ∧ (∀ w', Blk w' g t (cs.toList.take off ++ p.toList ++ cs.toList.drop (off + p.size)).toArray → Wr g w w' → W k a undef w' ∧ C w' ∧ R w w'))
    (h : ∀ v, (∃ w, C w ∧ W k a v w) → flowL P ops ev C W R Fin ks ((k, W k a v) :: F) (a.put none v)) : flowL P ops ev C W R Fin (k :: ks) F a := by
  refine flow_event (opK_some hk) hw he (fun w hcl => ?_) (fun v hv => by rw [hd]; exact h v hv)
  obtain ⟨cs, hg, hs, hK⟩ := hc w hcl
  have hfin := hK _ (setRow_heap w g cs _ t (0, 0) hg) (Wr.row w g _)
  unfold execOp
  simp only [ho, hx, hy, Instr.storeAt, Instr.sureAddr, Sem.run_bind, Sem.run_pure, Result.andThen_ok, run_storeVar_part (P := P) ty g off t cs p hg hi hs h1 _ rfl]
  exact hfin
/-- One cell is stored. -/
theorem fstore1 (hk : decide (k < ops.size) = true) (hd : (opK ops k).dst = none) (hw : Region.wanted (opK ops k) (yielded ops a.tmps) = true) (he : ev k = true) (ty : TypeId) (x y : Operand) (ho : (opK ops k).op = .store ty x y) (g off : Nat) (hx : a.eval x = .pointer (some ⟨g, off, none⟩)) (v : Value) (hy : a.eval y = v) (hv : v.cells = #[v]) (h1 : v.oneCell' = true)
    (t : TypeId) (hi : (P.info? ty).map (·.size) = some 1)
    (hc : ∀ w, cls ops C F k w → ∃ cs, Blk w g t cs ∧ off < cs.size ∧ (∀ w', Blk w' g t (cs.setIfInBounds off v) → Wr g w w' → W k a undef w' ∧ C w' ∧ R w w'))
    (h : ∀ v, (∃ w, C w ∧ W k a v w) → flowL P ops ev C W R Fin ks ((k, W k a v) :: F) (a.put none v)) : flowL P ops ev C W R Fin (k :: ks) F a := by
  refine flow_event (opK_some hk) hw he (fun w hcl => ?_) (fun v hv => by rw [hd]; exact h v hv)
  obtain ⟨cs, hg, hs, hK⟩ := hc w hcl
  have hcs : (cs.toList.take off ++ [v] ++ cs.toList.drop (off + 1)).toArray = cs.setIfInBounds off v := by
    apply Array.toList_inj.1
    have ho : off < cs.toList.length := by simpa using hs
    simp only [Array.toList_setIfInBounds, List.append_assoc, List.cons_append, List.nil_append]
    rw [List.set_eq_take_append_cons_drop, if_pos ho]
  have hfin := hK _ (setRow_heap w g cs _ t (0, 0) hg) (Wr.row w g _)
  unfold execOp
  simp only [ho, hx, hy, Instr.storeAt, Instr.sureAddr, Sem.run_bind, Sem.run_pure, Result.andThen_ok, run_storeVar_cell (P := P) ty g off t cs v hv hg hi hs h1 hcs]
  exact hfin
end
end Go.Proofs.YtbcagdjfegobnaaGreat
/- Gates whose connections have just begun: gate.Hear of a first packet, whatever desk.first makes of it. -/
namespace Go.Proofs.YtbcagdjfegobnaaGreat
open Go.ChangeShapes Go.WideShapes Go.ChangeAt Go.RowKit
set_option linter.unusedVariables false

theorem gcs_part (g : GtD) (A : Option Addr) (n c : Nat) (O : Option Addr) (m co : Nat) : ∀ j v, (gcs g A n c)[j]? = some v → (dkc g A n c O m co)[0 + j]? = some v := by
  intro j v hv
  have hj : j < (gcs g A n c).size := (Array.getElem?_eq_some_iff.1 hv).1
  have e : dkc g A n c O m co = gcs g A n c ++ #[.slice O m co] := rfl
  rw [Nat.zero_add, e, Array.getElem?_append_left hj]
  exact hv
theorem Blk.und {w w' : World} {B g : Nat} {t : TypeId} {cs : Array Value} (h : Blk w g t cs) (hb : Below B w w') (hg : g < B) : Blk w' g t cs := (hb.block g hg).trans h
/-- Mail of the call's own. -/
def MlOwn (w : World) (base : Nat) (O : Option Addr) (co : Nat) (ms : List MlB) : Prop := OwnX mlc 2 w base 75 O co ms ∧ ∀ x ∈ ms, OwnX u8c 1 w 0 5 x.D x.c x.data ∧ x.data.length = x.n
theorem MlOwn.carry {w w' : World} {base : Nat} {O : Option Addr} {co : Nat} {ms : List MlB} (h : MlOwn w base O co ms) (hb : Below w.heap.size w w') : MlOwn w' base O co ms := ⟨h.1.carry hb, fun x hx => ⟨(h.2 x hx).1.carry hb, (h.2 x hx).2⟩⟩
/-- Mail that is read. -/
def MlRd (w : World) (O : Option Addr) (ms : List MlB) : Prop := RdX mlc 2 w O ms ∧ ∀ x ∈ ms, RdB w x.D x.data ∧ x.data.length = x.n ∧ x.n ≤ x.c ∧ x.c ≤ 9223372036854775807
theorem MlRd.below {w w' : World} {O : Option Addr} {ms : List MlB} (h : MlRd w O ms) (hb : Below w.heap.size w w') : MlRd w' O ms := ⟨RdX.below h.1 hb, fun x hx => ⟨(h.2 x hx).1.below hb, (h.2 x hx).2⟩⟩
theorem DkV.mls {w : World} {base gd : Nat} {g : GtD} {A : Option Addr} {n c : Nat} {xs : List NtB} {O : Option Addr} {m co : Nat} {ms : List MlB} (h : DkV w base gd g A n c xs O m co ms) : MlRd w O ms :=
  ⟨h.ml.rd, fun x hx => ⟨(h.dat x hx).1.rd.b, (h.dat x hx).2, by have := (h.dat x hx).1.cap; rw [(h.dat x hx).2] at this; exact this.1, (h.dat x hx).1.cap.2⟩⟩

theorem DkV.wrG {w w' : World} {base gd : Nat} {g : GtD} {A : Option Addr} {n c : Nat} {xs : List NtB} {O : Option Addr} {m co : Nat} {ms : List MlB} (h : DkV w base gd g A n c xs O m co ms) {q : Nat} {cs : Array Value} (hw : Wr q w w') (hq : Blk w q 29 cs) : DkV w' base gd g A n c xs O m co ms :=
  ⟨h.hn, h.hm, h.hg, h.d.wr hw (Blk.ne h.d hq (by decide)), h.nt.wr hw (own_ne h.nt hq (by decide)), h.ml.wr hw (own_ne h.ml hq (by decide)), fun x hx => ⟨(h.dat x hx).1.wr hw (own_ne (h.dat x hx).1 hq (by decide)), (h.dat x hx).2⟩⟩
theorem DkV.mlsW {w w' : World} {base gd : Nat} {g : GtD} {A : Option Addr} {n c : Nat} {xs : List NtB} {O : Option Addr} {m co : Nat} {ms : List MlB} (h : DkV w base gd g A n c xs O m co ms) {q : Nat} {cs : Array Value} (hw : Wr q w w') (hq : Blk w q 29 cs) : MlRd w' O ms :=
  ⟨(h.ml.wr hw (own_ne h.ml hq (by decide))).rd, fun x hx => ⟨((h.dat x hx).1.wr hw (own_ne (h.dat x hx).1 hq (by decide))).rd.b, (h.dat x hx).2, by have := (h.dat x hx).1.cap; rw [(h.dat x hx).2] at this; exact this.1, (h.dat x hx).1.cap.2⟩⟩
set_option maxRecDepth 100000 in
set_option maxHeartbeats 8000000 in
theorem hear_first (p : Nat) (hp : p < 4) (t f : Nat) (tok : List UInt8) (U : Nat) (B : Option Addr) (bn bc : Nat) (bs : List UInt8) (hbn : bs.length = bn) (hbc : bn ≤ bc) (hbm : bc ≤ 9223372036854775807) (h400 : bn ≤ 400) (hdc : hdec bs = (⟨0, t, f, tok, 0, 1⟩, U, 0))
    (g : GtD) (A : Option Addr) (n c : Nat) (xs : List NtB) (hkf : (g.t p).1 = false) (h1 : (g.t p).2.1 ≤ 1099511627376) (h3 : (g.t p).2.2 ≤ 1099511627376) (tg : Tly) (htg : tg = (false, (g.t p).2.1 + bn, (g.t p).2.2)) (E : Int) (Pr : GtD → Nat → List NtB → Nat → List MlB → Prop)
    (hPr : ∀ g2 n2 ys m2 ms2, Pr g2 n2 ys m2 ms2 → GOk g2 ys ∧ ys.length = n2) (w : World) (hG : GtV w g A n c xs) (hB : RdB w B bs)
    (hfirst : ∀ (W : World) (base gd : Nat) (A1 : Option Addr) (c1 : Nat) (xs1 : List NtB) (T : Option Addr) (d : Nat), xs1.map NtB.pl = xs.map NtB.pl → (∀ y ∈ xs1, BgR y.cs y.last) → DkV W base gd (g.set p tg) A1 n c1 xs1 none 0 0 [] → base ≤ W.heap.size → RdB W T tok → tok.length ≤ d → d ≤ 9223372036854775807 → RdB W B bs →
      Calls Tryz.prog 60 #[.pointer (some ⟨gd, 0, none⟩), .int .i64 p, .agg #[.int .i64 (0 : Nat), .int .i64 t, .int .i64 f, .slice T tok.length d, .int .i64 (0 : Nat), .int .i64 (1 : Nat)], .int .i64 (U : Nat), .slice B bn bc] W fun e w' => e = .returned (.int .i64 E) ∧
        (∃ g2 A2 n2 c2 ys O2 m2 co2 ms2, DkV w' base gd g2 A2 n2 c2 ys O2 m2 co2 ms2 ∧ Pr g2 n2 ys m2 ms2) ∧ Below base W w') :
    Calls Tryz.prog 27 #[.agg (gcs g A n c), .int .i64 p, .slice B bn bc] w fun e w' => ∃ g2 A2 n2 c2 ys zs O2 m2 co2 ms2, e = .returned (.tuple #[.agg (gcs g2 A2 n2 c2), .slice O2 m2 co2, .int .i64 E]) ∧ GtV w' g2 A2 n2 c2 ys ∧ ys.map NtB.pl = zs.map NtB.pl ∧ Pr g2 n2 zs m2 ms2 ∧ ms2.length = m2 ∧ m2 ≤ co2 ∧ co2 ≤ 9223372036854775807 ∧ MlOwn w' w.heap.size O2 co2 ms2 ∧ OwnX ntc 29 w' w.heap.size 53 A2 c2 ys ∧ Below w.heap.size w w' := by
  have HG := Lib.hid hG
  have HB := Lib.hid hB
  have HBN := Lib.hid hbn
  have HD := Lib.hid hdc
  have HF := Lib.hid hfirst
  have HPR := Lib.hid hPr
  have HKF := Lib.hid hkf
  have HTG := Lib.hid htg
  have hok := hG.ok.tl p hp
  have HOK := Lib.hid hok
  have q0 := hG.ok.n0
  have q1 := hG.ok.n1
  have hw1 : (bn : Int) ≤ 400 := by omega
  clear hG hB hbn hdc hfirst hPr hkf htg hok
  go_enter Tryz.func27, Tryz.ntmps27
  unfold gcs
  -- [[p1
  go_upto_region 1 with (fail)
  refine wp_world (fun w' => Blk w' w.heap.size 29 (gcs g A n c) ∧ (∃ z, z.size = 18 ∧ Blk w' (w.heap.size + 1) 29 z) ∧ Below w.heap.size w w') ⟨(Blk.new _ _ _).alloc _, ⟨_, rfl, Blk.new1 _ _ _ _⟩, ((Below.refl _ _).alloc (Nat.le_refl _) _).alloc (by simp) _⟩ ?_
  rintro w1 ⟨hA, ⟨z, hz, hZ⟩, hb1⟩
  obtain ⟨qA, hqA⟩ : ∃ q, w.heap.size = q := ⟨_, rfl⟩
  obtain ⟨gR, hgR⟩ : ∃ q, w.heap.size + 1 = q := ⟨_, rfl⟩
  rw [hgR] at hZ ⊢
  rw [hqA] at hA ⊢
  have HA1 := Lib.hid hA
  have HZ1 := Lib.hid hZ
  have HB1 := Lib.hid hb1
  have hqr : w.heap.size ≤ gR := by omega
  clear hA hZ hb1 hqA hgR
  go_wp2_with (refine wpList_loadR rfl 29 (.tmp 3) rfl qA 0 rfl (gcs g A n c) _ Tryz.underlying29 rfl (by kernel_rfl) HA1.out.whole ?_)
  refine (gateCheck_ok g A n c xs _ (HG.out.below HB1.out)).mono ?_
  rintro e w2 ⟨rfl, hb2⟩
  have HA2 := Lib.hid (HA1.out.carry hb2)
  have HZ2 := Lib.hid (HZ1.out.carry hb2)
  have HB2 := Lib.hid (HB1.out.trans (hb2.mono HB1.out.size))
  clear hb2 HA1 HZ1 HB1
  go_wp2_with (refine wpList_loadR rfl 29 (.tmp 3) rfl qA 0 rfl (gcs g A n c) _ Tryz.underlying29 rfl (by kernel_rfl) HA2.out.whole ?_)
  refine (gateFresh_ok g A n c xs _ (HG.out.below HB2.out)).mono ?_
  rintro e w3 ⟨A1, c1, xs1, rfl, hO, hV, hpl, hb3⟩
  have HZ3 := Lib.hid (HZ2.out.carry hb3)
  have HB3 := Lib.hid (HB2.out.trans (hb3.mono HB2.out.size))
  have HO := Lib.hid (hO.mono (base' := gR + 1) (by have := HZ2.out.lt; omega))
  have HPL := Lib.hid hpl
  have HBG := Lib.hid (show ∀ y ∈ xs1, BgR y.cs y.last from fun y hy => (hV.ok.nts y hy).r)
  have HN1 := Lib.hid hV.hn
  clear hb3 hO hV hpl HA2 HZ2 HB2
  unfold gcs
  go_upto_region 9 with (fail)
  obtain ⟨gd, hgd⟩ : ∃ q, w3.heap.size = q := ⟨_, rfl⟩
  refine wp_world (fun w' => DkV w' (gR + 1) gd g A1 n c1 xs1 none 0 0 [] ∧ Blk w' gR 29 z ∧ Below w.heap.size w w')
    ⟨⟨HN1.out, rfl, by have := HZ3.out.lt; omega, Blk.newF hgd, HO.out.alloc _, OwnX.nil _ _ _, fun x hx => absurd hx List.not_mem_nil⟩, HZ3.out.alloc _, HB3.out.alloc HB3.out.size _⟩ ?_
  rw [hgd]
  clear hgd HZ3 HB3 HO HN1
  rintro w4 ⟨hV, hZ, hb⟩
  have HV4 := Lib.hid hV
  have HZ4 := Lib.hid hZ
  have HB4 := Lib.hid hb
  have hgl := hV.d.lt
  clear hV hZ hb
  have HGT := Lib.hid (fun W => tallyGot_f (g.t p).2.1 (g.t p).2.2 bn HOK.out.1.1 h1 HOK.out.2.1.1 h3 (HOK.out.2.2 HKF.out) (by omega) (by omega) W)
  have h4 : (p : Int) < 4 := by omega
  have h0 : (0 : Int) ≤ (p : Int) := by omega
  -- [[p2
  go_wp2_with (refine wpList_loadR rfl 26 (.tmp 42) rfl gd (4 + p * 3) rfl (tl3 (g.t p)) _ Tryz.underlying26 rfl (by kernel_rfl) (tly_at HV4.out.d p hp) ?_)
  unfold tl3
  rw [HKF.out]
  refine (HGT.out _).mono ?_
  rintro e w5 ⟨rfl, hb5⟩
  have HV5 := Lib.hid (HV4.out.carry hb5)
  have HZ5 := Lib.hid (HZ4.out.carry hb5)
  have HB5 := Lib.hid (HB4.out.trans (hb5.mono HB4.out.size))
  have hgl5 := HV5.out.d.lt
  clear hb5 HV4 HZ4 HB4
  go_upto_region 12 with (fail)
  obtain ⟨gT, hgT⟩ : ∃ q, w5.heap.size = q := ⟨_, rfl⟩
  refine wp_world (fun w' => Blk w' gT 26 (tl3 tg) ∧ DkV w' (gR + 1) gd g A1 n c1 xs1 none 0 0 [] ∧ Blk w' gR 29 z ∧ Below w.heap.size w w') ⟨by rw [HTG.out]; exact Blk.newF hgT, HV5.out.carry ((Below.refl _ _).alloc (Nat.le_refl _) _), HZ5.out.alloc _, HB5.out.alloc HB5.out.size _⟩ ?_
  try rw [hgT]
  clear hgT HV5 HZ5 HB5 hgl5
  rintro w6 ⟨hT, hV, hZ, hb⟩
  have HT6 := Lib.hid hT
  have HV6 := Lib.hid hV
  have HZ6 := Lib.hid hZ
  have HB6 := Lib.hid hb
  clear hT hV hZ hb
  -- [[p3
  refine wp_flow (fun k => decide (k < 7)) (fun k => false) 102 [0, 1, 2, 3, 4, 5, 6] (fun w' => Below w6.heap.size w6 w') (fun k a v w' => True) (by kernel_rfl) ?hflB ?hpuB ?hksB (fun _ _ _ _ _ h => h) rfl ?hst ?hC ?_
  case hflB => kernel_rfl
  case hpuB => kernel_rfl
  case hksB => kernel_rfl
  case hst => exact ⟨fun w0 w1 h1 hb => h1.trans (hb.mono h1.size), fun k a v w0 w1 hW hb => hW, fun k a b v w0 _ h => h⟩
  case hC => exact (Below.refl _ _).drew
  refine fq 54 (.pointer (some ⟨gd, 0, none⟩)) (by kernel_rfl) (by kernel_rfl) (by kernel_rfl) (by kernel_rfl) (fun w => (by kernel_rfl)) ?_
  refine fq 55 (.int .i64 p) (by kernel_rfl) (by kernel_rfl) (by kernel_rfl) (by kernel_rfl) (fun w => (by kernel_rfl)) ?_
  refine fqR 56 (tl3 tg) 26 (.tmp 11) gT 0 _ (by kernel_rfl) (by kernel_rfl) (by kernel_rfl) (by kernel_rfl) (by kernel_rfl) (by kernel_rfl) Tryz.underlying26 rfl (by kernel_rfl) (fun w hw => (HT6.out.carry hw.1).whole) ?_
  refine fq 57 (.pointer (some ⟨gd, 0, none⟩)) (by kernel_rfl) (by kernel_rfl) (by kernel_rfl) (by kernel_rfl) (fun w => (by kernel_rfl)) ?_
  refine fq 58 (.pointer (some ⟨gd, 0, none⟩)) (by kernel_rfl) (by kernel_rfl) (by kernel_rfl) (by kernel_rfl) (fun w => (by kernel_rfl)) ?_
  refine fq 59 (.pointer (some ⟨gd, 4, none⟩)) (by kernel_rfl) (by kernel_rfl) (by kernel_rfl) (by kernel_rfl) (fun w => (by kernel_rfl)) ?_
  refine fidxA 60 27 (.tmp 59) (.tmp 55) gd 4 4 .i64 (p : Nat) 3 (4 + p * 3) (by kernel_rfl) (by kernel_rfl) (by kernel_rfl) (by kernel_rfl) (by kernel_rfl) (by kernel_rfl) (by kernel_rfl) (by kernel_rfl) (fun w => (by kernel_rfl)) (by kernel_rfl) (by omega) (by omega) (by simp) ?_
  refine fend [7] (by kernel_rfl) (by kernel_rfl) ?_
  intro w10 hw10 _
  refine tstoreP (by kernel_rfl) (by kernel_rfl) 26 (.tmp 60) (.tmp 56) (by kernel_rfl) gd (4 + p * 3) (by kernel_rfl) (tl3 tg) (by kernel_rfl) 133 _ (HV6.out.d.carry hw10) (by kernel_rfl) (by simp [dkc, tl3]; omega) (tl3_one _) _ (tly_put g A1 n c1 none 0 0 p hp tg) ?_
  intro w11 hB11 hw11
  refine tend ?_
  go_simp
  refine (show ∀ (a : Act) (w : World), Code.wp _ _ _ a w → _ from by assumption) _ _ ?_
  refine wp_world (fun w' => DkV w' (gR + 1) gd (g.set p tg) A1 n c1 xs1 none 0 0 [] ∧ Blk w' gR 29 z ∧ Below w.heap.size w w') ⟨(HV6.out.carry hw10).wr (g' := g.set p tg) hB11 hw11, (HZ6.out.carry hw10).wr hw11 (Blk.ne (HZ6.out.carry hw10) (HV6.out.d.carry hw10) (by decide)), hw11.trans_below (HB6.out.trans (hw10.mono HB6.out.size)) (by have := HV6.out.hg; omega)⟩ ?_
  clear hw10 hw11 hB11 HT6 HV6 HZ6 HB6
  rintro w7 ⟨hV, hZ, hb⟩
  have HV7 := Lib.hid hV
  have HZ7 := Lib.hid hZ
  have HB7 := Lib.hid hb
  clear hV hZ hb
  have HDEC := hDec_any B bs bn bc w7 HBN.out (HB.out.below HB7.out) hbc hbm
  rw [HD.out] at HDEC
  have HDEC := Lib.hid HDEC
  go_wp2_with fail
  refine HDEC.out.mono ?_
  rintro e w8 ⟨T, d, rfl, hT, hTd, hTm, hb8⟩
  simp only at hT hTd
  simp only [hcells]
  have HV8 := Lib.hid (HV7.out.carry hb8)
  have HZ8 := Lib.hid (HZ7.out.carry hb8)
  have HB8 := Lib.hid (HB7.out.trans (hb8.mono HB7.out.size))
  have HT8 := Lib.hid hT
  clear hb8 HV7 HZ7 HB7 HDEC hT
  go_upto_region 15 with (fail)
  obtain ⟨gH, hgH⟩ : ∃ q, w8.heap.size = q := ⟨_, rfl⟩
  refine wp_world (fun w' => Blk w' gH 61 #[.int .i64 (0 : Nat), .int .i64 t, .int .i64 f, .slice T tok.length d, .int .i64 (0 : Nat), .int .i64 (1 : Nat)] ∧ RdB w' T tok ∧ DkV w' (gR + 1) gd (g.set p tg) A1 n c1 xs1 none 0 0 [] ∧ Blk w' gR 29 z ∧ Below w.heap.size w w') ⟨Blk.newF hgH, HT8.out.below ((Below.refl _ _).alloc (Nat.le_refl _) _), HV8.out.carry ((Below.refl _ _).alloc (Nat.le_refl _) _), HZ8.out.alloc _, HB8.out.alloc HB8.out.size _⟩ ?_
  try rw [hgH]
  clear hgH HV8 HZ8 HB8 HT8
  rintro w8 ⟨hH, hT, hV, hZ, hb⟩
  have HH8 := Lib.hid hH
  have HT8 := Lib.hid hT
  have HV8 := Lib.hid hV
  have HZ8 := Lib.hid hZ
  have HB8 := Lib.hid hb
  have k0 : w8.cell? ⟨gH, 0, none⟩ = some (.int .i64 (0 : Nat)) := by rw [hH.cell]; rfl
  have hHl := hH.lt
  clear hH hT hV hZ hb
  -- [[p4
  go_wp2_with (refine wpList_loadR rfl 61 (.tmp 13) rfl gH 0 rfl #[.int .i64 (0 : Nat), .int .i64 t, .int .i64 f, .slice T tok.length d, .int .i64 (0 : Nat), .int .i64 (1 : Nat)] _ Tryz.underlying61 rfl (by kernel_rfl) HH8.out.whole ?_)
  refine (HF.out w8 (gR + 1) gd A1 c1 xs1 T d HPL.out HBG.out HV8.out (by have := HZ8.out.lt; omega) HT8.out hTd hTm (HB.out.below HB8.out)).mono ?_
  rintro e w9 ⟨rfl, ⟨g2, A2, n2, c2, zs, O2, m2, co2, ms2, hV9, hp9⟩, hb9⟩
  obtain ⟨hgo, hzn⟩ := HPR.out _ _ _ _ _ hp9
  have HZ9 := Lib.hid (HZ8.out.und hb9 (by omega))
  have HB9 := Lib.hid (HB8.out.trans (hb9.mono (by omega)))
  have HV9 := Lib.hid hV9
  have HP9 := Lib.hid hp9
  have HGO := Lib.hid hgo
  have hz3 : n2 ≤ 3 := by have := hgo.few; omega
  have m0 := hgo.n0
  have m1 := hgo.n1
  clear hb9 hV9 hp9 hgo HH8 HT8 HV8 HZ8 HB8 k0 hHl
  go_wp2_with fail
  refine (flush_beg (gR + 1) gd g2 A2 n2 c2 zs O2 m2 co2 ms2 w9 HV9.out (by have := HZ9.out.lt; omega) hz3 (fun x hx => (HGO.out.nts x hx).r) m0 m1).mono ?_
  rintro e w10 ⟨rfl, ⟨A2, c2, hV10⟩, hb10⟩
  have HR9 := Lib.hid (HZ9.out.und hb10 (by omega))
  have HB10 := Lib.hid (HB9.out.trans (hb10.mono (by omega)))
  have HV9 := Lib.hid hV10
  have hrl := HR9.out.lt
  clear hb10 hV10 HZ9 HB9
  go_upto_region 21 with (fail)
  obtain ⟨w9, hw9⟩ : ∃ w9, w10 = w9 := ⟨_, rfl⟩
  subst hw9
  have f18 : w10.cell? ⟨gd, 18, none⟩ = some (.slice O2 m2 co2) := by rw [HV9.out.d.cell]; rfl
  -- [[p5
  have HST := Lib.hid (show ∀ w0 w1, Below w0.heap.size w0 w1 → Stays (fun w' => DkV w' (gR + 1) gd g2 A2 n2 c2 zs O2 m2 co2 ms2 ∧ (∃ z, z.size = 18 ∧ Blk w' gR 29 z) ∧ Below w.heap.size w w') (fun k v w' => (k = 4 → ∃ A3 c3 ys, v = .agg (gcs g2 A3 n2 c3) ∧ OwnX ntc 29 w' (gR + 1) 53 A3 c3 ys ∧ ys.length = n2 ∧ GOk g2 ys ∧ ys.map NtB.pl = zs.map NtB.pl) ∧ (k = 10 → ∃ A3 c3 ys, Blk w' gR 29 (gcs g2 A3 n2 c3) ∧ OwnX ntc 29 w' (gR + 1) 53 A3 c3 ys ∧ ys.length = n2 ∧ GOk g2 ys ∧ ys.map NtB.pl = zs.map NtB.pl)) w0 w1 from fun w0 w1 hb => ⟨fun h1 => by obtain ⟨h1, ⟨z, hz, hZ⟩, h3⟩ := h1; exact ⟨h1.carry hb, ⟨z, hz, hZ.carry hb⟩, h3.trans (hb.mono h3.size)⟩, fun k v hW => ⟨fun e => (fun hp => by obtain ⟨A3, c3, ys, e1, e2, e3⟩ := hp; exact ⟨A3, c3, ys, e1, e2.carry hb, e3⟩) (hW.1 e), fun e => (fun hp => by obtain ⟨A3, c3, ys, e1, e2, e3⟩ := hp; exact ⟨A3, c3, ys, e1.carry hb, e2.carry hb, e3⟩) (hW.2 e)⟩⟩)
  refine wp_flowS (fun k => decide (k < 11)) (fun k => k == 4 || k == 10) 102 [0, 1, 2, 3, 4, 5, 6, 7, 8, 9, 10] (fun w' => DkV w' (gR + 1) gd g2 A2 n2 c2 zs O2 m2 co2 ms2 ∧ (∃ z, z.size = 18 ∧ Blk w' gR 29 z) ∧ Below w.heap.size w w') (fun k v w' => (k = 4 → ∃ A3 c3 ys, v = .agg (gcs g2 A3 n2 c3) ∧ OwnX ntc 29 w' (gR + 1) 53 A3 c3 ys ∧ ys.length = n2 ∧ GOk g2 ys ∧ ys.map NtB.pl = zs.map NtB.pl) ∧ (k = 10 → ∃ A3 c3 ys, Blk w' gR 29 (gcs g2 A3 n2 c3) ∧ OwnX ntc 29 w' (gR + 1) 53 A3 c3 ys ∧ ys.length = n2 ∧ GOk g2 ys ∧ ys.map NtB.pl = zs.map NtB.pl)) (by kernel_rfl) ?hflB ?hpuB ?hksB (fun _ _ _ _ _ h => h) rfl ?hC ?_
  case hflB => kernel_rfl
  case hpuB => kernel_rfl
  case hksB => kernel_rfl
  case hC => exact ⟨HV9.out.carry (Below.refl _ _).drew, ⟨z, hz, HR9.out.carry (Below.refl _ _).drew⟩, HB10.out.trans ((Below.refl _ _).drew)⟩
  refine fq 92 (.pointer (some ⟨gd, 0, none⟩)) (by kernel_rfl) (by kernel_rfl) (by kernel_rfl) (by kernel_rfl) (fun w => (by kernel_rfl)) ?_
  refine fq 93 (.pointer (some ⟨gd, 0, none⟩)) (by kernel_rfl) (by kernel_rfl) (by kernel_rfl) (by kernel_rfl) (fun w => (by kernel_rfl)) ?_
  refine fq 94 (.pointer (some ⟨gd, 0, none⟩)) (by kernel_rfl) (by kernel_rfl) (by kernel_rfl) (by kernel_rfl) (fun w => (by kernel_rfl)) ?_
  refine fqR 95 (gcs g2 A2 n2 c2) 29 (.tmp 94) gd 0 _ (by kernel_rfl) (by kernel_rfl) (by kernel_rfl) (by kernel_rfl) (by kernel_rfl) (by kernel_rfl) Tryz.underlying29 rfl (by kernel_rfl) (fun w hw => hw.1.1.d.part 0 _ (gcs_part _ _ _ _ _ _ _)) ?_
  refine fcall 96 58 #[.agg (gcs g2 A2 n2 c2)] (by kernel_rfl) (by kernel_rfl) (by kernel_rfl) (by kernel_rfl) (fun w => (by kernel_rfl)) (fun w hw => (gateFresh_ok g2 A2 n2 c2 zs w ⟨hzn, by have := hw.1.1.nt.cap; rw [hzn] at this; exact this.1, hw.1.1.nt.cap.2, HGO.out, hw.1.1.nt.rd⟩).mono ?hx4_96) ?_
  case hx4_96 =>
    rintro e w' ⟨A3, c3, ys, rfl, hO, hV, hpl, hb⟩
    exact ⟨_, rfl, ⟨fun _ => ⟨A3, c3, ys, rfl, hO.mono (by obtain ⟨z, _, hZ⟩ := hw.1.2.1; have := hZ.lt; omega), hV.hn, hV.ok, hpl⟩, fun e => absurd e (by decide)⟩, (HST.out _ _ (hb)).1 hw.1, HST.out _ _ (hb)⟩
  rintro v ⟨w', hw', hW⟩
  obtain ⟨A3, c3, ys0, rfl, h4, h5⟩ := hW.1 rfl
  clear h4 h5 ys0 hW hw' w'
  refine fq 97 (.pointer (some ⟨gd, 0, none⟩)) (by kernel_rfl) (by kernel_rfl) (by kernel_rfl) (by kernel_rfl) (fun w => (by kernel_rfl)) ?_
  refine fq 98 (.pointer (some ⟨gd, 0, none⟩)) (by kernel_rfl) (by kernel_rfl) (by kernel_rfl) (by kernel_rfl) (fun w => (by kernel_rfl)) ?_
  refine fq 99 (.pointer (some ⟨gd, 18, none⟩)) (by kernel_rfl) (by kernel_rfl) (by kernel_rfl) (by kernel_rfl) (fun w => (by kernel_rfl)) ?_
  refine fq1 100 (.slice O2 m2 co2) 71 (.tmp 99) gd 18 _ (by kernel_rfl) (by kernel_rfl) (by kernel_rfl) (by kernel_rfl) (by kernel_rfl) (by kernel_rfl) Tryz.underlying71 rfl (fun w hw => by rw [hw.1.1.d.cell]; rfl) ?_
  refine fq 101 (.int .i64 E) (by kernel_rfl) (by kernel_rfl) (by kernel_rfl) (by kernel_rfl) (fun w => (by kernel_rfl)) ?_
  refine fstoreP (by kernel_rfl) (by kernel_rfl) (by kernel_rfl) (by kernel_rfl) 29 (.tmp 6) (.tmp 96) (by kernel_rfl) gR 0 (by kernel_rfl) (gcs g2 A3 n2 c3) (by kernel_rfl) 29 (by kernel_rfl) (gcs_one _ _ _ _) (fun W hw => ?hst10) ?_
  case hst10 =>
    obtain ⟨⟨hV, ⟨z, hz, hZ⟩, hb⟩, hfs⟩ := hw
    obtain ⟨A4, c4, ys, e2, hON, hg3⟩ := (hfs _ List.mem_cons_self (by kernel_rfl)).1 rfl
    obtain ⟨rfl, rfl⟩ : A3 = A4 ∧ c3 = c4 := by injection e2 with e2; simpa [gcs] using e2
    refine ⟨z, hZ, by simp [gcs, hz], fun w' hB' hw' => ?_⟩
    have hB' := hB'.as (splice_all _ _ (by simp [gcs, hz]))
    have hC' : DkV w' (gR + 1) gd g2 A2 n2 c2 zs O2 m2 co2 ms2 ∧ (∃ z, z.size = 18 ∧ Blk w' gR 29 z) ∧ Below w.heap.size w w' := ⟨hV.wrG hw' hZ, ⟨_, rfl, hB'⟩, hw'.trans_below hb hqr⟩
    have hO' := hON.wr hw' (own_ne hON hZ (by decide))
    exact ⟨⟨fun e => absurd e (by decide), fun _ => ⟨A3, c3, ys, hB', hO', hg3⟩⟩, hC', ⟨fun _ => hC', fun k v hv => ⟨fun e => by obtain ⟨A5, c5, ys5, e5, hO5, hg5⟩ := hv.1 e; exact ⟨A5, c5, ys5, e5, hO5.wr hw' (own_ne hO5 hZ (by decide)), hg5⟩, fun _ => ⟨A3, c3, ys, hB', hO', hg3⟩⟩⟩⟩
  rintro v -
  refine fend [11, 12] (by kernel_rfl) (by kernel_rfl) ?_
  intro w12 hw12 hF
  obtain ⟨A4, c4, ys, hR, hON, hyn, hyg, hpl⟩ := (hF _ List.mem_cons_self).2 rfl
  clear hF
  refine tval (some 7) (.slice O2 m2 co2) w12 (by kernel_rfl) (by kernel_rfl) (by kernel_rfl) ?_
  refine tval (some 8) (.int .i64 E) w12 (by kernel_rfl) (by kernel_rfl) (by kernel_rfl) ?_
  refine tend ?_
  go_simp
  refine (show ∀ (a : Act) (w : World), Code.wp _ _ _ a w → _ from by assumption) _ _ ?_
  have hcap := hON.cap
  rw [hyn] at hcap
  have hmc := hw12.1.ml.cap
  have hmm := hw12.1.hm
  rw [hmm] at hmc
  have HMC := Lib.hid hmc
  have HMM := Lib.hid hmm
  have HPL := Lib.hid hpl
  refine wp_world (fun w' => Blk w' gR 29 (gcs g2 A4 n2 c4) ∧ GtV w' g2 A4 n2 c4 ys ∧ MlOwn w' w.heap.size O2 co2 ms2 ∧ OwnX ntc 29 w' w.heap.size 53 A4 c4 ys ∧ Below w.heap.size w w') ⟨hR, ⟨hyn, hcap.1, hcap.2, hyg, hON.rd⟩, ⟨hw12.1.ml.mono (by omega), hw12.1.dat⟩, hON.mono (by omega), hw12.2.2⟩ ?_
  clear hR hON hyg hw12 HV9 HR9 HB10 f18 hmc hmm hcap HST hpl
  rintro w14 ⟨hR, hGV, hML, hON, hb⟩
  have HON := Lib.hid hON
  clear hON
  have HGV := Lib.hid hGV
  have HML := Lib.hid hML
  have HB := Lib.hid hb
  clear hGV hML hb
  go_wp2_with fail
  exact bodyPost_ret (results_c3 _ _ gR _ (gcs g2 A4 n2 c4) _ Tryz.results27 rfl hR Tryz.underlying29 rfl (by kernel_rfl) rfl rfl) rfl ⟨g2, A4, n2, c4, ys, zs, O2, m2, co2, ms2, rfl, HGV.out, HPL.out, HP9.out, HMM.out, HMC.out.1, HMC.out.2, HML.out, HON.out, HB.out⟩
  -- ]]p5
  -- ]]p4
  -- ]]p3
  -- ]]p2
  -- ]]p1
end Go.Proofs.YtbcagdjfegobnaaGreat
