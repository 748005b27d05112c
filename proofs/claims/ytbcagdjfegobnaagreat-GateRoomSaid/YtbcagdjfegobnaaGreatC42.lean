/- Texts of the proof, laid together: Gate6 FlowY FlowZ HeadDecWalk. -/
import Derived.Test.YtbcagdjfegobnaaGreatC15
import Derived.Test.YtbcagdjfegobnaaGreatC16
import Derived.Test.YtbcagdjfegobnaaGreatC38
import Derived.Test.YtbcagdjfegobnaaGreatC29
/- Gates whose connections have just begun: the contract of desk.flush: nothing is told. -/
namespace Go.Proofs.YtbcagdjfegobnaaGreat
open Go.ChangeShapes Go.WideShapes Go.ChangeAt Go.RowKit
set_option linter.unusedVariables false

section
variable {P : Program} {ops : Array Oper} {o : Oper} {a : Act} {w : World} {K : Act → World → Prop} {Q : Exit → Act → World → Prop} {E' : Prop}
/-- The laws for great structs as_v steps of a region that draws. -/
theorem step_loadR (hg : o.guard = none) (ty : TypeId) (x : Operand) (ho : o.op = .load ty x) (b off : Nat) (hx : a.eval x = .pointer (some ⟨b, off, none⟩)) (p : Array Value) (d : TypeDesc)
    (hu : P.underlying ty = some d) (hd : (match d with | .struct _ | .array _ _ => true | _ => false) = true) (hi : (P.info? ty).map (·.size) = some p.size) (hc : ∀ j v, p[j]? = some v → w.cell? ⟨b, off + j, none⟩ = some v)
    (h : K (a.put o.dst (.agg p)) w) : if Region.wanted o (yielded ops a.tmps) = true then Oper.wp P o a w K Q else E' := by
  rw [if_pos (by simp [Region.wanted, hg])]
  exact wp_loadR ty x ho b off hx p d hu hd hi hc h
theorem step_storeP (hgd : o.guard = none) (ty : TypeId) (x y : Operand) (ho : o.op = .store ty x y) (g off : Nat) (hx : a.eval x = .pointer (some ⟨g, off, none⟩)) (p : Array Value) (hy : a.eval y = .agg p)
    (t : TypeId) (cs : Array Value) (hg : Blk w g t cs) (hi : (P.info? ty).map (·.size) = some p.size) (hs : off + p.size ≤ cs.size) (h1 : ∀ v ∈ p.toList, v.oneCell' = true) (cs' : Array Value) (hcs : (cs.toList.take off ++ p.toList ++ cs.toList.drop (off + p.size)).toArray = cs')
    (h : ∀ w', Blk w' g t cs' → Wr g w w' → K (a.put o.dst undef) w') : if Region.wanted o (yielded ops a.tmps) = true then Oper.wp P o a w K Q else E' := by
  rw [if_pos (by simp [Region.wanted, hgd])]
  exact wp_storeP ty x y ho g off hx p hy t cs hg hi hs h1 cs' hcs h
end

set_option maxRecDepth 100000 in
set_option maxHeartbeats 4000000 in
theorem flush_beg (base gd : Nat) (g : GtD) (A : Option Addr) (n c : Nat) (xs : List NtB) (O : Option Addr) (m co : Nat) (ms : List MlB) (w : World) (h : DkV w base gd g A n c xs O m co ms) (hbase : base ≤ w.heap.size) (hn3 : n ≤ 3) (hr : ∀ x ∈ xs, BgR x.cs x.last) (n0 : 0 ≤ g.now) (n1 : g.now ≤ 1099511627776) :
    Calls Tryz.prog 62 #[.pointer (some ⟨gd, 0, none⟩)] w fun e w' => e = .returned (.tuple #[]) ∧ (∃ A' c', DkV w' base gd g A' n c' xs O m co ms) ∧ Below base w w' := by
  have HV := Lib.hid h
  have HR := Lib.hid hr
  have hgd := h.hg
  have hgl := h.d.lt
  have f3 : w.cell? ⟨gd, 3, none⟩ = some (.slice A n c) := by rw [h.d.cell]; rfl
  have hnc := h.nt.cap
  rw [h.hn] at hnc
  obtain ⟨hnc1, hnc2⟩ := hnc
  clear h hr
  go_enter Tryz.func62, Tryz.ntmps62
  go_wp2_with fail
  go_loopw [2, 16] (fun s2 s16 wr => ∃ (k : Nat) (D : Option Addr) (cd : Nat), k ≤ n ∧ s16 = .int .i64 k ∧ s2 = .slice D k cd ∧ OwnX ntc 29 wr w.heap.size 53 D cd (xs.take k) ∧ Below w.heap.size w wr) (fun _ s16 _ => n - (intOf s16).toNat)
  case atStart => exact ⟨0, none, 0, Nat.zero_le _, rfl, rfl, OwnX.nil _ _ _, Below.refl _ _⟩
  case round =>
    obtain ⟨k, D, cd, hk, rfl, rfl, hO, hbr⟩ := hrel
    have HO := Lib.hid hO
    have HBR := Lib.hid hbr
    have hwr := hbr.size
    clear hO
    by_cases hlt : k < n
    -- [[round1
    · have hkx : k < xs.length := by rw [HV.out.hn]; exact hlt
      have hmem : xs.getD k ntn ∈ xs := by simp [List.getD, hkx]
      have hbg := HR.out _ hmem
      have hTL : (xs.take k).length = k := by rw [List.length_take]; omega
      have HTL := Lib.hid hTL
      obtain ⟨b, off, rfl, hcell⟩ := (RdX.below HV.out.nt.rd hbr).nt (by omega)
      have hc := hcell k hkx
      have HTK := Lib.hid (takeD xs k ntn hkx)
      generalize xs.getD k ntn = x at *
      have HC := Lib.hid hc
      have HBG := Lib.hid hbg
      have hkn : (k : Int) < (n : Int) := by omega
      clear hcell hc hkx hbr f3 hmem hbg hTL
      go_upto_region 4 with (first
        | refine wpList_loadR rfl 53 (.tmp 18) rfl b (off + k * 29) rfl (nta x) _ Tryz.underlying53 rfl (by rw [nta_size]; kernel_rfl) HC.out ?_
        | (refine wpList_storeP rfl 53 (.tmp 4) (.tmp 19) rfl wr.heap.size 0 rfl (nta x) rfl 53 _ (Blk.new _ _ _) (by rw [nta_size]; kernel_rfl) (by rw [nta_size]; decide) (nta_one x) _ (splice_all _ _ (by rw [nta_size]; rfl)) ?_
           intro w2 hN hw2
           have hO2 := Lib.hid ((HO.out.alloc _).wr hw2 (fun a ha => by have := (HO.out.lt (n := k) a.block (by rw [slice_own, ha]; rfl)).2; omega))
           have hb2 := Lib.hid (hw2.trans_below (HBR.out.alloc hwr _) hwr)))
      obtain ⟨q, hq⟩ : ∃ q, wr.heap.size = q := ⟨_, rfl⟩
      rw [hq] at hN ⊢
      have hqw : w.heap.size ≤ q := by omega
      have hqs : q < w2.heap.size := hN.lt
      clear hw2 hq HC HO HBR hwr
      go_wp2_with fail
      refine wp_loop_rounds 1 ?_
      rw [rounds_succ]
      go_upto_region 6 with (fail)
      have HN := Lib.hid hN
      have f1 : w2.cell? ⟨gd, 1, none⟩ = some (.int .i64 g.now) := by rw [(HV.out.d.carry hb2.out).cell]; rfl
      clear hN
      go_cut [5, 6, 7, 8] (fun s5 s6 s7 s8 wx => s6 = .int .i64 0 ∧ s7 = .slice none 0 0 ∧ s8 = .int .i64 0 ∧ Below w2.heap.size w2 wx)
      case first =>
        -- [[fst
        refine wp_flow (fun k => decide (k < 14)) (fun k => k == 7 || k == 13) 90 [0, 1, 2, 3, 4, 5, 6, 7, 8, 9, 10, 11, 12, 13] (fun w' => Below w2.heap.size w2 w')
          (fun k a v w' => (k = 7 → ∃ cs, v = .tuple #[.agg cs, .int .i64 0, .slice none 0 0, .int .i64 0] ∧ BgR cs x.last) ∧ (k = 13 → ∃ g, v = .pointer (some ⟨g, 0, none⟩) ∧ w2.heap.size ≤ g ∧ ∃ z, z.size = 24 ∧ Blk w' g 43 z))
          (by kernel_rfl) ?hflB ?hpuB ?hksB (fun _ _ _ _ _ h => h) rfl ?hst ?hC ?hfl
        case hflB => kernel_rfl
        case hpuB => kernel_rfl
        case hksB => kernel_rfl
        case hst => exact ⟨fun w0 w1 h1 hb => h1.trans (hb.mono h1.size), fun k a v w0 w1 hW hb => ⟨hW.1, fun e => by obtain ⟨g1, e1, hg1, z, hz, hB⟩ := hW.2 e; exact ⟨g1, e1, hg1, z, hz, hB.carry hb⟩⟩, fun k a b v w0 _ h => h⟩
        case hC => exact (Below.refl _ _).drew
        case hfl =>
          refine fq 23 (.pointer (some ⟨q, 5, none⟩)) (by kernel_rfl) (by kernel_rfl) (by kernel_rfl) (by kernel_rfl) (fun w => by kernel_rfl) ?_
          refine fqR 24 x.cs 43 (.tmp 23) q 5 _ (by kernel_rfl) (by kernel_rfl) (by kernel_rfl) (by kernel_rfl) (by kernel_rfl) (by kernel_rfl) Tryz.underlying43 rfl (by rw [x.sz]; kernel_rfl) (fun w hw => (HN.out.carry hw.1).ntcs) ?_
          refine fq 25 (.pointer (some ⟨gd, 0, none⟩)) (by kernel_rfl) (by kernel_rfl) (by kernel_rfl) (by kernel_rfl) (fun w => by kernel_rfl) ?_
          refine fq 26 (.pointer (some ⟨gd, 0, none⟩)) (by kernel_rfl) (by kernel_rfl) (by kernel_rfl) (by kernel_rfl) (fun w => by kernel_rfl) ?_
          refine fq 27 (.pointer (some ⟨gd, 0, none⟩)) (by kernel_rfl) (by kernel_rfl) (by kernel_rfl) (by kernel_rfl) (fun w => by kernel_rfl) ?_
          refine fq 28 (.pointer (some ⟨gd, 1, none⟩)) (by kernel_rfl) (by kernel_rfl) (by kernel_rfl) (by kernel_rfl) (fun w => by kernel_rfl) ?_
          refine fq1 29 (.int .i64 g.now) 3 (.tmp 28) gd 1 (.int .i64) (by kernel_rfl) (by kernel_rfl) (by kernel_rfl) (by kernel_rfl) (by kernel_rfl) (by kernel_rfl) (by kernel_rfl) rfl (fun w hw => cell_on hw.1 (by have := hb2.out.size; omega) f1) ?_
          refine fcall 30 104 #[.agg x.cs, .int .i64 g.now] (by kernel_rfl) (by kernel_rfl) (by kernel_rfl) (by kernel_rfl) (fun w => by kernel_rfl) (fun w hw => (HBG.out.flush g.now n0 n1 w).mono ?hx1) ?_
          case hx1 =>
            rintro e w' ⟨cs, rfl, hcs, hb⟩
            exact ⟨_, rfl, ⟨fun _ => ⟨cs, rfl, hcs⟩, fun e => absurd e (by decide)⟩, hw.1.trans (hb.mono hw.1.size), hb⟩
          rintro v ⟨w', hw', hW⟩
          obtain ⟨cs, rfl, hcs⟩ := hW.1 rfl
          clear hW hw' w'
          refine fq 22 (.tuple #[.agg cs, .int .i64 0, .slice none 0 0, .int .i64 0]) (by kernel_rfl) (by kernel_rfl) (by kernel_rfl) (by kernel_rfl) (fun w => by kernel_rfl) ?_
          refine fq 31 (.agg cs) (by kernel_rfl) (by kernel_rfl) (by kernel_rfl) (by kernel_rfl) (fun w => by kernel_rfl) ?_
          refine fq 32 (.int .i64 0) (by kernel_rfl) (by kernel_rfl) (by kernel_rfl) (by kernel_rfl) (fun w => by kernel_rfl) ?_
          refine fq 33 (.slice none 0 0) (by kernel_rfl) (by kernel_rfl) (by kernel_rfl) (by kernel_rfl) (fun w => by kernel_rfl) ?_
          refine fq 34 (.int .i64 0) (by kernel_rfl) (by kernel_rfl) (by kernel_rfl) (by kernel_rfl) (fun w => by kernel_rfl) ?_
          refine fnew 5 (fun w => .pointer (some ⟨w.heap.size, 0, none⟩)) (fun w => w.alloc (.cells #[.bool false, .int .i64 0, .slice none 0 0, .int .i64 0, .slice none 0 0, .slice none 0 0, .int .i64 0, .int .i64 0, .int .i64 0, .int .i64 0, .int .i64 0, .int .i64 0, .int .i64 0, .int .i64 0, .int .i64 0, .int .i64 0, .int .i64 0, .slice none 0 0, .bool false, .slice none 0 0, .int .i64 0, .int .i64 0, .bool false, .int .i64 0] 43)) (by kernel_rfl) (by kernel_rfl) (by kernel_rfl) (by kernel_rfl) (fun w => by kernel_rfl) (fun w hw => ⟨⟨fun e => absurd e (by decide), fun _ => ⟨w.heap.size, rfl, hw.1.size, _, rfl, Blk.new _ _ _⟩⟩, hw.1.alloc hw.1.size _, (Below.refl _ _).alloc (Nat.le_refl _) _⟩) ?_
          rintro v ⟨w', hw', hW⟩
          obtain ⟨g1, rfl, hg1, h4⟩ := hW.2 rfl
          clear h4 hW hw' w'
          refine fend [14, 15, 16, 17] (by kernel_rfl) (by kernel_rfl) ?_
          intro w6 hw6 hF
          have h13 := hF _ List.mem_cons_self
          obtain ⟨g2, e2, hg2, z, hz, hZ⟩ := h13.2 rfl
          obtain rfl : g1 = g2 := by injection e2 with e2; injection e2 with e2; injection e2
          clear h13 hF e2
          refine tstoreP (by kernel_rfl) (by kernel_rfl) 43 (.tmp 5) (.tmp 31) (by kernel_rfl) g1 0 (by kernel_rfl) cs (by kernel_rfl) 43 z hZ (by rw [hcs.size]; kernel_rfl) (by rw [hcs.size, hz]; decide) hcs.one _ (splice_all _ _ (by rw [hz, hcs.size])) ?_
          intro w7 hB7 hw7
          refine tval (some 6) (.int .i64 0) w7 (by kernel_rfl) (by kernel_rfl) (by kernel_rfl) ?_
          refine tval (some 7) (.slice none 0 0) w7 (by kernel_rfl) (by kernel_rfl) (by kernel_rfl) ?_
          refine tval (some 8) (.int .i64 0) w7 (by kernel_rfl) (by kernel_rfl) (by kernel_rfl) ?_
          refine tend ?_
          refine (show ∀ (a : Act) (w : World), Met _ a w → _ from by assumption) _ _ ?_
          go_simp
          refine Met.intro ?_
          refine (show ∀ (a : Act) (w : World), _ → _ from by assumption) _ _ ?_
          (repeat apply Exists.intro)
          refine ⟨?rel, rfl⟩
          exact ⟨rfl, rfl, rfl, hw7.trans_below hw6 hg1⟩
        -- ]]fst
      case rest =>
        obtain ⟨rfl, rfl, rfl, hbx⟩ := hcut
        refine (show ∀ (a : Act) (w : World), Code.wp _ _ _ a w → _ from by assumption) _ _ ?_
        refine wp_world (fun w' => Below w2.heap.size w2 w') hbx ?_
        clear hbx
        rintro w5 hb5
        have HN5 := Lib.hid (HN.out.carry hb5)
        have HO5 := Lib.hid (hO2.out.carry hb5)
        have HB5 := Lib.hid (hb2.out.trans (hb5.mono hb2.out.size))
        have fc : w5.cell? ⟨q, 27, none⟩ = some (.bool false) := HN5.out.ntcs 22 _ HBG.out.closed
        have h25 := hb5.size
        clear hb5 HN hO2 hb2 f1
        go_wp2_with (first
          | refine wpList_loadR rfl 53 (.tmp 4) rfl q 0 rfl (nta x) _ Tryz.underlying53 rfl (by rw [nta_size]; kernel_rfl) HN5.out.whole ?_
          | refine wpList_buildOne rfl 24 53 (.tmp 81) rfl (nta x) rfl Tryz.underlying24 _ 29 312 ntInfo (nta_size _) (nta_size _) (by decide) (by decide) ?_
          | (at_builtin
             refine wpList_appL ntc 29 ntc_one _ rfl (.tmp 80) (.tmp 82) _ rfl w.heap.size 53 _ 312 Tryz.underlying24 ntInfo (nta_size _) (by decide) (by decide) D k cd _ rfl HTL.out (HO5.out.alloc _) _ 1 1 [x] rfl rfl (RdX.oneN _ _ _) _ HTK.out.symm (k + 1) rfl (by omega) (by simp; omega) ?_
             intro A7 c7 w7 hO7 hc7 hm7 hb7 hg7 ha7))
        go_roundw
        case rel => exact ⟨k + 1, A7, c7, by omega, by go_num, rfl, hO7, (HB5.out.alloc (by omega) _).trans hb7⟩
        case measure => simp [intOf]; omega
      -- ]]round1
    -- [[fin
    · obtain rfl : k = n := by omega
      rw [List.take_of_length_le (by rw [HV.out.hn]; exact Nat.le_refl _)] at HO
      have HVr := Lib.hid (HV.out.carry HBR.out)
      have f3 : wr.cell? ⟨gd, 3, none⟩ = some (.slice A k c) := by rw [HVr.out.d.cell]; rfl
      have z3 := HVr.out.d.zs 3
      have hl2 : gd < wr.heap.size := HVr.out.d.lt
      clear hbr
      go_wp2_with fail
      go_end0
      refine ⟨rfl, ⟨D, cd, HV.out.hn, HV.out.hm, hgd, (HVr.out.d.set_ 3 _).as (by rfl), (HO.out.mono hbase).wr (Wr.set _ gd 3 _) (own_ne HO.out HVr.out.d (by decide)), HVr.out.ml.wr (Wr.set _ gd 3 _) (own_ne HVr.out.ml HVr.out.d (by decide)), fun y hy => ⟨(HVr.out.dat y hy).1.wr (Wr.set _ gd 3 _) (own_ne (HVr.out.dat y hy).1 HVr.out.d (by decide)), (HVr.out.dat y hy).2⟩⟩, (Wr.set _ gd 3 _).trans_below (HBR.out.mono hbase) hgd⟩
    -- ]]fin
end Go.Proofs.YtbcagdjfegobnaaGreat
/- A region that draws its order, walked once: append onto nothing. -/
namespace Go.Proofs.YtbcagdjfegobnaaGreat
open Go.RowKit
set_option linter.unusedVariables false

theorem run_append_none {P : Program} (t ty e : TypeId) (i : TypeInfo) (ht : P.underlying t = some (.slice e)) (hi : P.info? e = some i) (X : Option Addr) (cx : Nat) (A : Option Addr) (c : Nat) (w : World) :
    (Builtin.append_ #[t, t] ty #[.slice X 0 cx, .slice A 0 c]).run P w = .ok (.slice X 0 cx) w := by
  cases X <;> cases A <;> simp [Builtin.append_, run_underlying ht, sizeOf, typeInfo, hi, Builtin.lenOf, Builtin.firstCells, storeCells, loadCells, loadCellsFrom]
/-- append onto nothing that has no room: what is made is new. -/
theorem run_app_new {P : Program} {α : Type} (f : α → List Value) (size : Nat) (hone : ∀ (xs : List α), ∀ u ∈ xs.flatMap f, u.oneCell' = true) (t ty : TypeId) (base : Nat) (E : TypeId) (z : Value) (bytes : Nat) (ht : P.underlying t = some (.slice E)) (hinfo : (P.info? E).map (fun i => (i.zero, i.size, i.bytes)) = some (some z, size, bytes)) (hzs : z.cells.size = size) (hsz : 0 < size) (hb1 : 1 ≤ bytes)
    (b : Nat) (w : World) (hown : OwnX f size w base E (some ⟨b, 0, none⟩) 0 []) (A : Option Addr) (m c : Nat) (bs : List α) (hm : bs.length = m) (hr : RdX f size w A bs) (hbytes : m * bytes ≤ 140737488355328) (hbase : base ≤ w.heap.size) :
    ∃ A' c' w', (Builtin.append_ #[t, t] ty #[.slice (some ⟨b, 0, none⟩) 0 0, .slice A m c]).run P w = .ok (.slice A' m c') w' ∧ OwnX f size w' base E A' c' bs ∧ m ≤ c' ∧ c' ≤ 9223372036854775807 ∧ Below w.heap.size w w' := by
  subst hm
  obtain ⟨i, hi, hz, hsize, hby⟩ := info_parts hinfo
  have h63 : 0 + bs.length ≤ maxLen := by
    have : bs.length * 1 ≤ bs.length * bytes := Nat.mul_le_mul_left _ hb1
    unfold maxLen; omega
  obtain ⟨v', w', hrun, h2, h3, h4⟩ := run_append_any (P := P) w base t ty E i z size bytes ht hi hz hsize hby hzs hsz (.slice (some ⟨b, 0, none⟩) 0 0) 0 [] hown A bs.length c (bs.flatMap f) hr (hone bs) h63 (by rw [Nat.zero_add]; exact hbytes) hbase
  obtain ⟨A', c', rfl, hc1, hc2⟩ := own_shape _ h2
  have h2' : OwnX f size w' base E A' c' bs := by
    have h5 := h2
    rw [List.nil_append, Nat.zero_add] at h5
    exact h5
  refine ⟨A', c', w', ?_, h2', by omega, by unfold maxLen at hc2; omega, ?_⟩
  · rw [Nat.zero_add] at hrun; exact hrun
  by_cases h0 : bs.length = 0
  · rw [h0, run_append_none t ty E i ht hi] at hrun
    injection hrun with _ e
    rw [← e]
    exact Below.refl _ _
  · obtain ⟨b1, off, rfl, hcell⟩ := hr.2 (by omega)
    have hg := run_append_grow (P := P) (w := w) t ty E i z ht hi hz ⟨b, 0, none⟩ 0 0 [] (by simp) (fun j v h => by simp at h) ⟨b1, off, none⟩ bs.length c (bs.flatMap f) (by rw [hsize]; exact hr.1) (fun j v h => by rw [add_none]; exact hcell j v h) (by omega) (by unfold maxLen at h63; omega) (by rw [Nat.zero_add, nextslicecap_zero (by omega), hby]; omega)
    rw [hg] at hrun
    injection hrun with _ e
    rw [← e]
    exact (Below.refl _ _).drew.alloc (Nat.le_refl _) _
section
variable {P : Program} {ops : Array Oper} {core ev : Nat → Bool} {C : World → Prop} {W : Nat → Act → Value → World → Prop} {R : World → World → Prop} {Q : Exit → Act → World → Prop} {Fin : List Fact → Act → Prop} {k : Nat} {ks : List Nat} {F : List Fact} {a : Act} {w : World} {ts : List Nat}
/-- .. as_v an event. -/
theorem fapp0 {α : Type} (d : Tmp) (f : α → List Value) (size : Nat) (hone : ∀ (xs : List α), ∀ u ∈ xs.flatMap f, u.oneCell' = true) (s x : Operand) (t : TypeId) (hk : decide (k < ops.size) = true) (hd : (opK ops k).dst = some d) (hw : Region.wanted (opK ops k) (yielded ops a.tmps) = true) (he : ev k = true)
    (ho : (opK ops k).op = .call { callee := .builtin .append, args := #[s, x], argTypes := #[t, t] })
    (base : Nat) (E : TypeId) (z : Value) (bytes : Nat) (ht : P.underlying t = some (.slice E)) (hinfo : (P.info? E).map (fun i => (i.zero, i.size, i.bytes)) = some (some z, size, bytes)) (hzs : z.cells.size = size) (hsz : 0 < size) (hb1 : 1 ≤ bytes)
    (b : Nat) (hs : a.eval s = .slice (some ⟨b, 0, none⟩) 0 0) (A : Option Addr) (m c : Nat) (bs : List α) (hx : a.eval x = .slice A m c) (hm : bs.length = m) (hbytes : m * bytes ≤ 140737488355328)
    (hc : ∀ w, cls ops C F k w → OwnX f size w base E (some ⟨b, 0, none⟩) 0 [] ∧ RdX f size w A bs ∧ base ≤ w.heap.size ∧ (∀ A' c' w', OwnX f size w' base E A' c' bs → m ≤ c' → c' ≤ 9223372036854775807 → Below w.heap.size w w' → W k a (.slice A' m c') w' ∧ C w' ∧ R w w'))
    (h : ∀ v, (∃ w, C w ∧ W k a v w) → flowL P ops ev C W R Fin ks ((k, W k a v) :: F) (a.put (some d) v)) : flowL P ops ev C W R Fin (k :: ks) F a := by
  refine flow_event (opK_some hk) hw he (fun w hcl => ?_) (fun v hv => by rw [hd]; exact h v hv)
  obtain ⟨hown, hr, hbase, hK⟩ := hc w hcl
  obtain ⟨A', c', w', hrun, h1, h2, h3, h4⟩ := run_app_new (P := P) f size hone t (opK ops k).type base E z bytes ht hinfo hzs hsz hb1 b w hown A m c bs hm hr hbytes hbase
  have hfin := hK A' c' w' h1 h2 h3 h4
  unfold execOp
  simp only [ho, resolve, invoke, builtin, Sem.run_bind, Sem.run_pure, Result.andThen_ok, List.map_toArray, List.map_cons, List.map_nil, hs, hx, hrun]
  exact hfin
end
end Go.Proofs.YtbcagdjfegobnaaGreat
/- A region that draws its order, walked once: what is told stays by each step's own proof; stores as_v events. -/
namespace Go.Proofs.YtbcagdjfegobnaaGreat
open Go.RowKit
set_option linter.unusedVariables false

/-- What holds of the class, and what is told, stays. -/
def Stays (C : World → Prop) (V : Nat → Value → World → Prop) (w w' : World) : Prop := (C w → C w') ∧ ∀ k v, V k v w → V k v w'
theorem Stays.refl {C : World → Prop} {V : Nat → Value → World → Prop} (w : World) : Stays C V w w := ⟨id, fun _ _ h => h⟩
section
variable {P : Program} {ops : Array Oper} {core ev : Nat → Bool} {C : World → Prop} {W : Nat → Act → Value → World → Prop} {R : World → World → Prop} {Q : Exit → Act → World → Prop} {Fin : List Fact → Act → Prop} {k : Nat} {ks : List Nat} {F : List Fact} {a : Act} {w : World} {ts : List Nat}
theorem wp_flowS {id : Nat} {a : Act} {w : World} (core ev : Nat → Bool) (sz : Nat) (ks : List Nat) (C : World → Prop) (V : Nat → Value → World → Prop) (hm : P.follows .mixedOrders = true) (hB : flowB ops core sz = true) (hpu : pureB ops core ev = true) (hks : coreL ops core = ks) (hQ : ∀ c a d v w, Q (.panic c) (a.put (some d) v) w → Q (.panic c) a w) (hsz : a.tmps.size = sz)
    (hC : C w.drew) (hfl : flowL P ops ev C (fun k _ v w => V k v w) (Stays C V) (flowFin P ops core C Q) ks [] a) : (Code.region id ops true).wp P Q a w :=
  wp_flowR core ev sz ks C (fun k _ v w => V k v w) (Stays C V) hm hB hpu hks hQ hsz ⟨fun w => Stays.refl w, fun a b c h k => ⟨fun x => k.1 (h.1 x), fun j v x => k.2 j v (h.2 j v x)⟩, fun w w' h k => k.1 h, fun k _ v w w' h r => r.2 k v h, fun k a b v w _ h => h⟩ hC hfl
/-- A struct is stored as_v a whole. -/
theorem fstoreP (hk : decide (k < ops.size) = true) (hd : (opK ops k).dst = none) (hw : Region.wanted (opK ops k) (yielded ops a.tmps) = true) (he : ev k = true) (ty : TypeId) (x y : Operand) (ho : (opK ops k).op = .store ty x y) (g off : Nat) (hx : a.eval x = .pointer (some ⟨g, off, none⟩)) (p : Array Value) (hy : a.eval y = .agg p)
    (t : TypeId) (hi : (P.info? ty).map (·.size) = some p.size) (h1 : ∀ v ∈ p.toList, v.oneCell' = true)
    (hc : ∀ w, cls ops C F k w → ∃ cs, Blk w g t cs ∧ off + p.size ≤ cs.size ∧ (∀ w', Blk w' g t (cs.toList.take off ++ p.toList ++ cs.toList.drop (off + p.size)).toArray → Wr g w w' → W k a undef w' ∧ C w' ∧ R w w'))
    (h : ∀ v, (∃ w, C w ∧ W k a v w) → flowL P ops ev C W R Fin ks ((k, W k a v) :: F) (a.put none v)) : flowL P ops ev C W R Fin (k :: ks) F a := by
  refine flow_event (opK_some hk) hw he (fun w hcl => ?_) (fun v hv => by rw [hd]; exact h v hv)
  obtain ⟨cs, hg, hs, hK⟩ := hc w hcl
  have hfin := hK _ (setRow_heap w g cs _ t (0, 0) hg) (Wr.row w g _)
  unfold execOp
  simp only [ho, hx, hy, Instr.storeAt, Instr.sureAddr, Sem.run_bind, Sem.run_pure, Result.andThen_ok, run_storeVar_part (P := P) ty g off t cs p hg hi hs h1 _ rfl]
  exact hfin
/-- One cell is stored. -/
theorem fstore1 (hk : decide (k < ops.size) = true) (hd : (opK ops k).dst = none) (hw : Region.wanted (opK ops k) (yielded ops a.tmps) = true) (he : ev k = true) (ty : TypeId) (x y : Operand) (ho : (opK ops k).op = .store ty x y) (g off : Nat) (hx : a.eval x = .pointer (some ⟨g, off, none⟩)) (v : Value) (hy : a.eval y = v) (hv : v.cells = #[v]) (h1 : v.oneCell' = true)
    (t : TypeId) (hi : (P.info? ty).map (·.size) = some 1)
    (hc : ∀ w, cls ops C F k w → ∃ cs, Blk w g t cs ∧ off < cs.size ∧ (∀ w', Blk w' g t (cs.setIfInBounds off v) → Wr g w w' → W k a undef w' ∧ C w' ∧ R w w'))
    (h : ∀ v, (∃ w, C w ∧ W k a v w) → flowL P ops ev C W R Fin ks ((k, W k a v) :: F) (a.put none v)) : flowL P ops ev C W R Fin (k :: ks) F a := by
  refine flow_event (opK_some hk) hw he (fun w hcl => ?_) (fun v hv => by rw [hd]; exact h v hv)
  obtain ⟨cs, hg, hs, hK⟩ := hc w hcl
  have hcs : (cs.toList.take off ++ [v] ++ cs.toList.drop (off + 1)).toArray = cs.setIfInBounds off v := by
    apply Array.toList_inj.1
    have ho : off < cs.toList.length := by simpa using hs
    simp only [Array.toList_setIfInBounds, List.append_assoc, List.cons_append, List.nil_append]
    rw [List.set_eq_take_append_cons_drop, if_pos ho]
  have hfin := hK _ (setRow_heap w g cs _ t (0, 0) hg) (Wr.row w g _)
  unfold execOp
  simp only [ho, hx, hy, Instr.storeAt, Instr.sureAddr, Sem.run_bind, Sem.run_pure, Result.andThen_ok, run_storeVar_cell (P := P) ty g off t cs v hv hg hi hs h1 hcs]
  exact hfin
end
end Go.Proofs.YtbcagdjfegobnaaGreat
/- The contract of head.Decode. -/
namespace Go.Proofs.YtbcagdjfegobnaaGreat
open Go.ChangeShapes Go.WideShapes Go.ChangeAt Go.RowKit
set_option linter.unusedVariables false

theorem andNot3 (c : Nat) (h : c < 256) : bits .andNot .u8 (c : Int) 3 = ((c / 4 * 4 : Nat) : Int) := by
  have key : ∀ c : Fin 256, (bits .andNot .u8 ((c.val : Nat) : Int) 3 == ((c.val / 4 * 4 : Nat) : Int)) = true := of_decide_eq_true (by kernel_rfl)
  simpa using key ⟨c, h⟩

theorem and3 (c : Nat) (h : c < 256) : bits .and .u8 (c : Int) 3 = ((c % 4 : Nat) : Int) := by
  have key : ∀ c : Fin 256, (bits .and .u8 ((c.val : Nat) : Int) 3 == ((c.val % 4 : Nat) : Int)) = true := of_decide_eq_true (by kernel_rfl)
  simpa using key ⟨c, h⟩

/-- What Decode answers where something is wrong. -/
def HBad (w : World) (E : Int) (e : Ending) (w' : World) : Prop := e = .returned (.tuple #[.agg #[.int .i64 0, .int .i64 0, .int .i64 0, .slice none 0 0, .int .i64 0, .int .i64 0], .int .i64 0, .int .i64 E]) ∧ Below w.heap.size w w'

set_option maxRecDepth 100000 in
theorem hDec_nil (A : Option Addr) (c : Nat) (w : World) :
    Calls Tryz.prog 31 #[.slice A 0 c] w (HBad w 4) := by
  have hC : Blk (w.alloc (.cells #[.int .i64 0, .int .i64 0, .int .i64 0, .slice none 0 0, .int .i64 0, .int .i64 0] 61)) w.heap.size 61 #[.int .i64 0, .int .i64 0, .int .i64 0, .slice none 0 0, .int .i64 0, .int .i64 0] := Blk.new _ _ _
  have hbz : Below w.heap.size w (w.alloc (.cells #[.int .i64 0, .int .i64 0, .int .i64 0, .slice none 0 0, .int .i64 0, .int .i64 0] 61)) := (Below.refl _ _).alloc (Nat.le_refl _) _
  have FC := hC.facts6
  go_enter Tryz.func31, Tryz.ntmps31
  go_wp2_with fail
  refine bodyPost_ret (v := .tuple #[.agg #[.int .i64 0, .int .i64 0, .int .i64 0, .slice none 0 0, .int .i64 0, .int .i64 0], .int .i64 0, .int .i64 4]) ?_ rfl ⟨rfl, ?_⟩
  · simp [results, Tryz.results31, go_sem, FC] <;> rfl
  · (repeat (first | with_reducible exact hbz | with_reducible refine Below.drew ?_ | (with_reducible refine Below.set4 ?_ ?side _ _ _ _; case side => (first | omega | (simp; omega) | (simp; done))) | (with_reducible refine Below.setCell ?_ ?side _; case side => (first | omega | (simp; omega) | (simp; done))) | (with_reducible refine Below.alloc ?_ ?side _; case side => (first | omega | (simp; omega) | (simp; done)))))

set_option maxRecDepth 100000 in
set_option maxHeartbeats 1000000 in
theorem hDec_none (A : Option Addr) (bs : List UInt8) (n c : Nat) (w : World) (hn : bs.length = n) (h : RdB w A bs) (hc : n ≤ c) (hm : c ≤ 9223372036854775807) (h0 : 1 ≤ n) (b : Nat) (hb : (bs.getD 0 0).toNat = b) (h1 : b / 4 ≠ 16) (h2 : b / 4 ≠ 48) (h3 : b ≠ 240) :
    Calls Tryz.prog 31 #[.slice A n c] w (HBad w 2) := by
  obtain ⟨B, off, rfl, hcell⟩ := h.cell (by omega)
  have hc0 := hcell 0 (by omega)
  rw [hb] at hc0
  have hb256 : b < 256 := by have := (bs.getD 0 0).toNat_lt; omega
  simp only [Nat.add_zero] at hc0
  obtain ⟨x, hx⟩ : ∃ x, bits .andNot .u8 (b : Int) 3 = x := ⟨_, rfl⟩
  have hxv := andNot3 b hb256
  rw [hx] at hxv
  have e1 : (x == 64) = false := by rw [hxv]; simp; omega
  have e2 : (x == 192) = false := by rw [hxv]; simp; omega
  have e3 : ((b : Int) == 240) = false := by simp; omega
  have hg := World.block_lt_of_cell? w _ hc0
  clear hxv hcell h hn hb
  have hC : Blk ((w.alloc (.cells #[.int .i64 0, .int .i64 0, .int .i64 0, .slice none 0 0, .int .i64 0, .int .i64 0] 61)).alloc (.cells #[.int .i64 0, .int .i64 0, .int .i64 0, .slice none 0 0, .int .i64 0, .int .i64 0] 61)) w.heap.size 61 #[.int .i64 0, .int .i64 0, .int .i64 0, .slice none 0 0, .int .i64 0, .int .i64 0] := (Blk.new _ _ _).alloc _
  have hbz : Below w.heap.size w ((w.alloc (.cells #[.int .i64 0, .int .i64 0, .int .i64 0, .slice none 0 0, .int .i64 0, .int .i64 0] 61)).alloc (.cells #[.int .i64 0, .int .i64 0, .int .i64 0, .slice none 0 0, .int .i64 0, .int .i64 0] 61)) := ((Below.refl _ _).alloc (Nat.le_refl _) _).alloc (by simp) _
  have FC := hC.facts6
  go_enter Tryz.func31, Tryz.ntmps31
  go_wp2_with fail
  refine bodyPost_ret (v := .tuple #[.agg #[.int .i64 0, .int .i64 0, .int .i64 0, .slice none 0 0, .int .i64 0, .int .i64 0], .int .i64 0, .int .i64 2]) ?_ rfl ⟨rfl, ?_⟩
  · simp [results, Tryz.results31, go_sem, FC] <;> rfl
  · (repeat (first | with_reducible exact hbz | with_reducible refine Below.drew ?_ | (with_reducible refine Below.set4 ?_ ?side _ _ _ _; case side => (first | omega | (simp; omega) | (simp; done))) | (with_reducible refine Below.setCell ?_ ?side _; case side => (first | omega | (simp; omega) | (simp; done))) | (with_reducible refine Below.alloc ?_ ?side _; case side => (first | omega | (simp; omega) | (simp; done)))))
/-- What Decode answers where a head was read. -/
def HGood (w : World) (H : HeadD) (u : Nat) (e : Ending) (w' : World) : Prop := ∃ T d, e = .returned (.tuple #[.agg (hcells H T d), .int .i64 u, .int .i64 0]) ∧ RdB w' T H.tok ∧ H.tok.length ≤ d ∧ d ≤ 9223372036854775807 ∧ Below w.heap.size w w'
def HTail (bs : List UInt8) (n k tt f : Nat) (t : List UInt8) (u s : Nat) (w : World) (e : Ending) (w' : World) : Prop :=
  (n < u + s ∧ HBad w 4 e w') ∨ (u + s ≤ n ∧ HGood w ⟨k, tt, f, t, valB ((bs.drop u).take s) 0, s⟩ (u + s) e w')

theorem rd_of_own8 {w : World} {base : Nat} {e : TypeId} {A : Option Addr} {l c : Nat} {bs : List UInt8} (h : w.ownsRow base e 1 (.slice A l c) l (u8s bs)) (hl : bs.length = l) : RdB w A bs := by
  subst hl; exact RdB.of_own h
theorem own_cap8 {w : World} {base : Nat} {e : TypeId} {A : Option Addr} {l c : Nat} {bs : List Value} (h : w.ownsRow base e 1 (.slice A l c) l bs) : l ≤ c ∧ c ≤ 9223372036854775807 := by
  rcases h.2 with ⟨h1, h2⟩ | ⟨g, cap, cur, hv, _, _, h3, h4, _⟩
  · injection h1 with _ h1 h3; omega
  · injection hv with _ h5 h6; unfold maxLen at h4; omega

set_option maxRecDepth 100000 in
set_option maxHeartbeats 2000000 in
theorem hDec_short (A : Option Addr) (bs : List UInt8) (n c : Nat) (w : World) (hn : bs.length = n) (h : RdB w A bs) (hc : n ≤ c) (hm : c ≤ 9223372036854775807) (h2n : 2 ≤ n) (b s : Nat) (hb : (bs.getD 0 0).toNat = b) (h1 : b / 4 = 16) (hs : b % 4 + 1 = s) :
    Calls Tryz.prog 31 #[.slice A n c] w (HTail bs n 2 (bs.getD 1 0).toNat 0 [] 2 s w) := by
  obtain ⟨B, off, rfl, hcell⟩ := h.cell (by omega)
  have hc0 := hcell 0 (by omega)
  have hc1 := hcell 1 (by omega)
  rw [hb] at hc0
  have hb256 : b < 256 := by have := (bs.getD 0 0).toNat_lt; omega
  obtain ⟨tt, hto⟩ : ∃ tt, (bs.getD 1 0).toNat = tt := ⟨_, rfl⟩
  have hto256 : tt < 256 := by have := (bs.getD 1 0).toNat_lt; omega
  rw [hto] at hc1 ⊢
  simp only [Nat.add_zero] at hc0
  obtain ⟨x, hx⟩ : ∃ x, bits .andNot .u8 (b : Int) 3 = x := ⟨_, rfl⟩
  have hxv := andNot3 b hb256
  rw [hx] at hxv
  have e1 : (x == 64) = true := by rw [hxv]; simp; try omega
  obtain ⟨y, hy⟩ : ∃ y, bits .and .u8 (b : Int) 3 = y := ⟨_, rfl⟩
  have hyv := and3 b hb256
  rw [hy] at hyv
  have hy0 : 0 ≤ y := by omega
  have hy3 : y ≤ 3 := by omega
  have e2 : y + 1 = (s : Int) := by omega
  have hs1 : 1 ≤ s := by omega
  have hs4 : s ≤ 4 := by omega
  have hg := World.block_lt_of_cell? w _ hc0
  have HR := Lib.hid h
  have HN := Lib.hid hn
  clear hxv hyv hcell h hn hb hto h1
  go_enter Tryz.func31, Tryz.ntmps31
  go_upto_region 12 with (fail)
  refine wp_world (fun w' => Blk w' w.heap.size 61 #[.int .i64 0, .int .i64 0, .int .i64 0, .slice none 0 0, .int .i64 0, .int .i64 0] ∧ Blk w' (w.heap.size + 1) 61 #[.int .i64 2, .int .i64 0, .int .i64 0, .slice none 0 0, .int .i64 0, .int .i64 s] ∧ w'.cell? ⟨B, off + 1, none⟩ = some (.int .u8 tt) ∧ Below w.heap.size w w')
    ⟨(Blk.new _ _ _).alloc _, (Blk.new1 _ _ _ _).as (by rw [← e2]), by go_simp, ((Below.refl _ _).alloc (Nat.le_refl _) _).alloc (by simp) _⟩ ?_
  clear hc0 hc1 hx hy e1 e2
  rintro w1 ⟨hB2, hB5, hc1, hb1⟩
  have hFH := hB5.facts6
  have hz1 := hb1.size
  go_upto_region 30 with (fail)
  refine wp_world (fun w' => Blk w' w.heap.size 61 #[.int .i64 0, .int .i64 0, .int .i64 0, .slice none 0 0, .int .i64 0, .int .i64 0] ∧ Blk w' (w.heap.size + 1) 61 #[.int .i64 2, .int .i64 tt, .int .i64 0, .slice none 0 0, .int .i64 0, .int .i64 s] ∧ Below w.heap.size w w')
    ⟨by (apply Blk.as; (case h => (repeat (first | with_reducible exact hB2 | with_reducible apply Blk.drew | with_reducible apply Blk.set4 | with_reducible apply Blk.set_ | (with_reducible apply Blk.far4 (hne := ?side); case side => (first | omega | (simp; omega) | (simp; done))) | (with_reducible apply Blk.far (hp := ?side); case side => (first | omega | (simp; omega) | (simp; done))) | with_reducible apply Blk.alloc))); (case e => (first | with_reducible rfl | (simp; done) | rfl))), by (apply Blk.as; (case h => (repeat (first | with_reducible exact hB5 | with_reducible apply Blk.drew | with_reducible apply Blk.set4 | with_reducible apply Blk.set_ | (with_reducible apply Blk.far4 (hne := ?side); case side => (first | omega | (simp; omega) | (simp; done))) | (with_reducible apply Blk.far (hp := ?side); case side => (first | omega | (simp; omega) | (simp; done))) | with_reducible apply Blk.alloc))); (case e => (first | with_reducible rfl | (simp; done) | rfl))), by (repeat (first | with_reducible exact hb1 | with_reducible refine Below.drew ?_ | (with_reducible refine Below.set4 ?_ ?side _ _ _ _; case side => (first | omega | (simp; omega) | (simp; done))) | (with_reducible refine Below.setCell ?_ ?side _; case side => (first | omega | (simp; omega) | (simp; done))) | (with_reducible refine Below.alloc ?_ ?side _; case side => (first | omega | (simp; omega) | (simp; done)))))⟩ ?_
  clear hFH hB2 hB5 hb1 hc1
  rintro w2 ⟨hB2, hB5, hbz⟩
  have HT : Hid (w2.ownsRow (w.heap.size + 2) 5 1 (.slice none 0 0) 0 (u8s [])) := OwnB.nil w2 _ _
  have HG2 : Hid (w.heap.size + 2 ≤ w2.heap.size) := hB5.lt
  have HB2 := Lib.hid hB2
  have HB5 := Lib.hid hB5
  have HBZ := Lib.hid hbz
  clear hB2 hB5 hbz hz1
  have hFC := HB2.out.facts6
  have hFH := HB5.out.facts6
  have hu0 : 2 + s ≤ 9223372036854775807 := by omega
  by_cases hsh : n < 2 + s
  · go_wp2_with fail
    refine bodyPost_ret (v := .tuple #[.agg #[.int .i64 0, .int .i64 0, .int .i64 0, .slice none 0 0, .int .i64 0, .int .i64 0], .int .i64 0, .int .i64 4]) ?_ rfl ?_
    · simp [results, Tryz.results31, go_sem, hFC] <;> rfl
    · refine Or.inl ⟨hsh, rfl, ?_⟩
      (repeat (first | with_reducible exact HBZ.out | with_reducible refine Below.drew ?_ | (with_reducible refine Below.set4 ?_ ?side _ _ _ _; case side => (first | omega | (simp; omega) | (simp; done))) | (with_reducible refine Below.setCell ?_ ?side _; case side => (first | omega | (simp; omega) | (simp; done))) | (with_reducible refine Below.alloc ?_ ?side _; case side => (first | omega | (simp; omega) | (simp; done)))))
  · obtain ⟨ms, hms⟩ : ∃ ms, (bs.drop 2).take s = ms := ⟨_, rfl⟩
    have hmsl : ms.length = s := by rw [← hms, List.length_take, List.length_drop, HN.out]; omega
    have hcell : ∀ (w' : World), Below w.heap.size w w' → ∀ k, k < s → w'.cell? ⟨B, off + 2 + k, none⟩ = some (.int .u8 ((ms.getD k 0).toNat : Int)) := by
      intro w' hw' k hk
      obtain ⟨B', off', hA', hc'⟩ := (HR.out.below hw').cell (by have := HN.out; omega)
      injection hA' with hA'
      injection hA' with h1 h2
      subst h1 h2
      have := hc' (2 + k) (by have := HN.out; omega)
      rw [← Nat.add_assoc] at this
      rw [this, ← hms]
      simp [List.getD, hk, List.getElem?_drop]
    have HMS := Lib.hid hms
    have HML := Lib.hid hmsl
    have HCELL := Lib.hid hcell
    have hz2 : w.heap.size ≤ w2.heap.size := HBZ.out.size
    have hnu : 2 + s - 2 = s := by omega
    have hcu : ((2 + s : Nat) : Int) ≤ (c : Int) := by omega
    clear hms hmsl hcell
    have HFC := Lib.hid hFC
    clear hFC
    have hcu1 : (if c = 2 then (some (⟨B, off, none⟩ : Addr)) else some ⟨B, off + 2, none⟩) = (if c = 2 then some ⟨B, off, none⟩ else some ⟨B, off + 2, none⟩) := rfl
    go_wp2_with fail
    clear hFH
    go_loopw [118] (fun i wr => ∃ k : Nat, k ≤ s ∧ i = .int .i64 k ∧ Blk wr (w.heap.size + 1) 61 #[.int .i64 2, .int .i64 tt, .int .i64 0, .slice none 0 0, .int .i64 (valB (ms.take k) 0 : Nat), .int .i64 s] ∧ Blk wr w.heap.size 61 #[.int .i64 0, .int .i64 0, .int .i64 0, .slice none 0 0, .int .i64 0, .int .i64 0] ∧ Below w.heap.size w wr ∧ wr.ownsRow (w.heap.size + 2) 5 1 (.slice none 0 0) 0 (u8s []) ∧ w.heap.size + 2 ≤ wr.heap.size) (fun i _ => s - (intOf i).toNat)
    case atStart => exact ⟨0, Nat.zero_le _, rfl, HB5.out, HB2.out, HBZ.out, HT.out, HG2.out⟩
    case round =>
      obtain ⟨k, hk, rfl, hB5, hB2, hbz, hT, hg2⟩ := hrel
      have HTT := Lib.hid hT
      clear hT
      have HB5 := Lib.hid hB5
      have HB2 := Lib.hid hB2
      have hFH := hB5.facts6
      clear hB5 hB2
      by_cases hlt : k < s
      · have hck := HCELL.out wr hbz k hlt
        have hv : Hid (valB (ms.take (k + 1)) 0 = valB (ms.take k) 0 * 256 + (ms.getD k 0).toNat) := by
          show _ = _
          rw [List.take_succ_eq_append_getElem (by rw [HML.out]; exact hlt), valB_snoc]; simp [List.getD, HML.out, hlt]
        have hvl : valB (ms.take k) 0 < 18014398509481984 := by
          have h1 := valB_bound (ms.take k)
          have h2 : 256 ^ (ms.take k).length ≤ 256 ^ 4 := Nat.pow_le_pow_right (by decide) (by rw [List.length_take]; omega)
          omega
        have hv0 : valB (ms.take k) 0 * 256 < 4611686018427387904 := by omega
        generalize hbk : ms.getD k 0 = bk at *
        generalize hvk : valB (ms.take k) 0 = vk at *
        obtain ⟨vn, hvn⟩ : ∃ vn, valB (ms.take (k + 1)) 0 = vn := ⟨_, rfl⟩
        have h9 : (bk.toNat : Int) < 256 := by have := bk.toNat_lt; omega
        have hor := or_byte vk bk.toNat hvl (by omega)
        have hvn' : Hid (vk * 256 + bk.toNat = vn) := by show _ = _; rw [← hvn]; exact hv.out.symm
        have HVN := Lib.hid hvn
        rw [hvn'.out] at hor
        clear hbk hvk hvn hv
        go_wp2_with fail
        go_roundw
        case rel => exact ⟨k + 1, by omega, by go_num, by rw [HVN.out]; (apply Blk.as; (case h => (repeat (first | with_reducible exact HB5.out | with_reducible apply Blk.drew | with_reducible apply Blk.set4 | with_reducible apply Blk.set_ | (with_reducible apply Blk.far4 (hne := ?side); case side => (first | omega | (simp; omega) | (simp; done))) | (with_reducible apply Blk.far (hp := ?side); case side => (first | omega | (simp; omega) | (simp; done))) | with_reducible apply Blk.alloc))); (case e => (first | with_reducible rfl | (simp; done) | rfl))), by (apply Blk.as; (case h => (repeat (first | with_reducible exact HB2.out | with_reducible apply Blk.drew | with_reducible apply Blk.set4 | with_reducible apply Blk.set_ | (with_reducible apply Blk.far4 (hne := ?side); case side => (first | omega | (simp; omega) | (simp; done))) | (with_reducible apply Blk.far (hp := ?side); case side => (first | omega | (simp; omega) | (simp; done))) | with_reducible apply Blk.alloc))); (case e => (first | with_reducible rfl | (simp; done) | rfl))), by (repeat (first | with_reducible exact hbz | with_reducible refine Below.drew ?_ | (with_reducible refine Below.set4 ?_ ?side _ _ _ _; case side => (first | omega | (simp; omega) | (simp; done))) | (with_reducible refine Below.setCell ?_ ?side _; case side => (first | omega | (simp; omega) | (simp; done))) | (with_reducible refine Below.alloc ?_ ?side _; case side => (first | omega | (simp; omega) | (simp; done))))), by (repeat (first | with_reducible exact HTT.out | with_reducible refine World.ownsRow.drew ?_ | (with_reducible refine ownsRow_setCell_below ?_ ?side _; case side => (first | omega | (simp; omega) | (simp; done))) | with_reducible refine World.ownsRow.alloc ?_ _)), by simp; omega⟩
        case measure => simp [intOf]; omega
      · obtain rfl : k = s := by omega
        have hfin : valB (ms.take k) 0 = valB ((bs.drop 2).take k) 0 := by rw [HMS.out, List.take_of_length_le (by rw [HML.out]; exact Nat.le_refl _)]
        have HFIN := Lib.hid hfin
        have hFC := HB2.out.facts6
        have hvk : valB (ms.take k) 0 < 4611686018427387904 := by
          have h1 := valB_bound (ms.take k)
          have h2 : 256 ^ (ms.take k).length ≤ 256 ^ 4 := Nat.pow_le_pow_right (by decide) (by rw [List.length_take]; omega)
          omega
        generalize valB (ms.take k) 0 = vk at *
        clear hfin hlt
        go_wp2_with fail
        go_region
        all_goals
          go_wp2_with fail
          refine bodyPost_ret (v := .tuple #[.agg #[.int .i64 2, .int .i64 tt, .int .i64 0, .slice none 0 0, .int .i64 vk, .int .i64 k], .int .i64 ((2 : Int) + k), .int .i64 0]) ?_ rfl ?_
          · simp [results, Tryz.results31, go_sem, hFC] <;> rfl
          · refine Or.inr ⟨by omega, none, 0, ?_, ?_, ?_, ?_, ?_⟩
            · simp [hcells, List.length_nil, ← HFIN.out]
            · refine rd_of_own8 (base := w.heap.size + 2) (e := 5) (l := 0) (c := 0) ?_ (by simp [List.length_nil])
              (repeat (first | with_reducible exact HTT.out | with_reducible refine World.ownsRow.drew ?_ | (with_reducible refine ownsRow_setCell_below ?_ ?side _; case side => (first | omega | (simp; omega) | (simp; done))) | with_reducible refine World.ownsRow.alloc ?_ _))
            · have := own_cap8 HTT.out; simp only [List.length_nil]; exact this.1
            · exact (own_cap8 HTT.out).2
            · (repeat (first | with_reducible exact hbz | with_reducible refine Below.drew ?_ | (with_reducible refine Below.set4 ?_ ?side _ _ _ _; case side => (first | omega | (simp; omega) | (simp; done))) | (with_reducible refine Below.setCell ?_ ?side _; case side => (first | omega | (simp; omega) | (simp; done))) | (with_reducible refine Below.alloc ?_ ?side _; case side => (first | omega | (simp; omega) | (simp; done)))))

set_option maxRecDepth 100000 in
set_option maxHeartbeats 1000000 in
theorem hDec_short1 (A : Option Addr) (bs : List UInt8) (c : Nat) (w : World) (hn : bs.length = 1) (h : RdB w A bs) (hc : 1 ≤ c) (hm : c ≤ 9223372036854775807) (b : Nat) (hb : (bs.getD 0 0).toNat = b) (h1 : b / 4 = 16) :
    Calls Tryz.prog 31 #[.slice A 1 c] w (HBad w 4) := by
  obtain ⟨B, off, rfl, hcell⟩ := h.cell (by omega)
  have hc0 := hcell 0 (by omega)
  rw [hb] at hc0
  have hb256 : b < 256 := by have := (bs.getD 0 0).toNat_lt; omega
  simp only [Nat.add_zero] at hc0
  obtain ⟨x, hx⟩ : ∃ x, bits .andNot .u8 (b : Int) 3 = x := ⟨_, rfl⟩
  have hxv := andNot3 b hb256
  rw [hx] at hxv
  have e1 : (x == 64) = true := by rw [hxv]; simp; try omega
  obtain ⟨y, hy⟩ : ∃ y, bits .and .u8 (b : Int) 3 = y := ⟨_, rfl⟩
  have hyv := and3 b hb256
  rw [hy] at hyv
  have hy0 : 0 ≤ y := by omega
  have hy3 : y ≤ 3 := by omega
  have hg := World.block_lt_of_cell? w _ hc0
  clear hxv hyv hcell h hn hb h1
  go_enter Tryz.func31, Tryz.ntmps31
  go_upto_region 12 with (fail)
  refine wp_world (fun w' => Blk w' w.heap.size 61 #[.int .i64 0, .int .i64 0, .int .i64 0, .slice none 0 0, .int .i64 0, .int .i64 0] ∧ Blk w' (w.heap.size + 1) 61 #[.int .i64 2, .int .i64 0, .int .i64 0, .slice none 0 0, .int .i64 0, .int .i64 (y + 1)] ∧ Below w.heap.size w w')
    ⟨(Blk.new _ _ _).alloc _, Blk.new1 _ _ _ _, ((Below.refl _ _).alloc (Nat.le_refl _) _).alloc (by simp) _⟩ ?_
  clear hc0 hx hy e1
  rintro w1 ⟨hB2, hB5, hb1⟩
  have hFH := hB5.facts6
  have hFC := hB2.facts6
  go_wp2_with fail
  refine bodyPost_ret (v := .tuple #[.agg #[.int .i64 0, .int .i64 0, .int .i64 0, .slice none 0 0, .int .i64 0, .int .i64 0], .int .i64 0, .int .i64 4]) ?_ rfl ⟨rfl, ?_⟩
  · simp [results, Tryz.results31, go_sem, hFC] <;> rfl
  · (repeat (first | with_reducible exact hb1 | with_reducible refine Below.drew ?_ | (with_reducible refine Below.set4 ?_ ?side _ _ _ _; case side => (first | omega | (simp; omega) | (simp; done))) | (with_reducible refine Below.setCell ?_ ?side _; case side => (first | omega | (simp; omega) | (simp; done))) | (with_reducible refine Below.alloc ?_ ?side _; case side => (first | omega | (simp; omega) | (simp; done)))))

theorem RdB.mid {w : World} {B off : Nat} {bs : List UInt8} (h : RdB w (some ⟨B, off, none⟩) bs) (u m c : Nat) (hu : u + m ≤ bs.length) (hc : bs.length ≤ c) : RdB w (if c = u then some ⟨B, off, none⟩ else some ⟨B, off + u, none⟩) ((bs.drop u).take m) := by
  have h1 := (h.cut (k := u) (cap := c) (by omega) hc).front (k := m) (by simp; omega)
  simpa [add_none] using h1

end Go.Proofs.YtbcagdjfegobnaaGreat
