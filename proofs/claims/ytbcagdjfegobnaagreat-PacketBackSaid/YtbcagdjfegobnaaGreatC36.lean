/- Texts of the proof, laid together: Gate7 FlowX. -/
import Derived.Test.YtbcagdjfegobnaaGreatC34
import Derived.Test.YtbcagdjfegobnaaGreatC30
import Derived.Test.YtbcagdjfegobnaaGreatC35
import Derived.Test.YtbcagdjfegobnaaGreatC16
import Derived.ChangeKeysEq
/- Gates whose connections have just begun: the contract of desk.retry: a token is told. -/
namespace Go.Proofs.YtbcagdjfegobnaaGreat
open Go.ChangeShapes Go.WideShapes Go.ChangeAt Go.RowKit
set_option linter.unusedVariables false

set_option maxRecDepth 100000 in
set_option maxHeartbeats 4000000 in
theorem retry_ok (p : Nat) (hp : p < 4) (k t f : Nat) (hf : f ≤ 255) (T : Option Addr) (tn tc : Nat) (nu si : Int) (base gd : Nat) (g : GtD) (A : Option Addr) (n c : Nat) (xs : List NtB) (O : Option Addr) (m co : Nat) (hm10 : m ≤ 100) (ms : List MlB)
    (ok : TlyOk (g.t p)) (h1 : (g.t p).2.1 ≤ 1099511627376) (h3 : (g.t p).2.2 ≤ 1099511627376) (h5 : (g.t p).1 = true ∨ (g.t p).2.2 + 20 ≤ 3 * (g.t p).2.1)
    (s0 : 0 ≤ g.secret) (s1 : g.secret < 18446744073709551616) (n0 : 0 ≤ g.now) (n1 : g.now ≤ 1099511627776) (w : World) (h : DkV w base gd g A n c xs O m co ms) (hbase : base ≤ w.heap.size) :
    Calls Tryz.prog 98 #[.pointer (some ⟨gd, 0, none⟩), .int .i64 p, .agg #[.int .i64 k, .int .i64 t, .int .i64 f, .slice T tn tc, .int .i64 nu, .int .i64 si]] w fun e w' => e = .returned (.tuple #[]) ∧
      (∃ O' co' D dc, DkV w' base gd (g.set p ((g.t p).1, (g.t p).2.1, (g.t p).2.2 + 20)) A n c xs O' (m + 1) co' (ms ++ [⟨p, D, 20, dc, retryB f (tokB g.secret p g.now)⟩])) ∧ Below base w w' := by
  have HV := Lib.hid h
  have HOK := Lib.hid ok
  have hgl := h.d.lt
  have f0 : w.cell? ⟨gd, 0, none⟩ = some (.int .u64 g.secret) := by rw [h.d.cell]; rfl
  have f1 : w.cell? ⟨gd, 1, none⟩ = some (.int .i64 g.now) := by rw [h.d.cell]; rfl
  clear h ok
  go_enter Tryz.func98, Tryz.ntmps98
  go_upto_region 1 with (fail)
  obtain ⟨q, hq⟩ : ∃ q, w.heap.size = q := ⟨_, rfl⟩
  refine wp_world (fun w' => Blk w' q 61 #[.int .i64 k, .int .i64 t, .int .i64 f, .slice T tn tc, .int .i64 nu, .int .i64 si] ∧ Below w.heap.size w w') ⟨Blk.newF hq, (Below.refl _ _).alloc (Nat.le_refl _) _⟩ ?_
  try rw [hq]
  rintro w1 ⟨hH, hb1⟩
  rw [← hq] at hb1
  have hqw : w.heap.size ≤ q := by omega
  have hgl1 : gd < w1.heap.size := by have := hb1.size; omega
  have f0 : w1.cell? ⟨gd, 0, none⟩ = some (.int .u64 g.secret) := cell_on hb1 (by omega) f0
  have f1 : w1.cell? ⟨gd, 1, none⟩ = some (.int .i64 g.now) := cell_on hb1 (by omega) f1
  have HB1 := Lib.hid hb1
  have HH := Lib.hid hH
  clear hq hb1 hH
  go_cut [6, 7] (fun s6 s7 wx => ∃ D dc, s6 = .slice D 16 dc ∧ s7 = .int .i64 0 ∧ OwnX u8c 1 wx w1.heap.size 5 D dc (tokB g.secret p g.now) ∧ dc ≤ 9223372036854775807 ∧ Below w1.heap.size w1 wx)
  case first =>
    -- [[fst
    refine wp_flow (fun k => decide (k < 15)) (fun k => k == 11) 40 [0, 1, 2, 3, 4, 5, 6, 7, 8, 9, 10, 11, 12, 13, 14] (fun w' => Below w1.heap.size w1 w') (fun k a v w' => (k = 11 → ∃ D dc, v = .tuple #[.slice D 16 dc, .int .i64 0] ∧ OwnX u8c 1 w' w1.heap.size 5 D dc (tokB g.secret p g.now) ∧ dc ≤ 9223372036854775807)) (by kernel_rfl) ?hflB ?hpuB ?hksB (fun _ _ _ _ _ h => h) rfl ?hst ?hC ?hfl
    case hflB => kernel_rfl
    case hpuB => kernel_rfl
    case hksB => kernel_rfl
    case hst => exact ⟨fun w0 w1 h1 hb => h1.trans (hb.mono h1.size), fun k a v w0 w1 hW hb e => by obtain ⟨D, dc, e1, hO, hd⟩ := hW e; exact ⟨D, dc, e1, hO.carry hb, hd⟩, fun k a b v w0 _ h => h⟩
    case hC => exact (Below.refl _ _).drew
    case hfl =>
      refine fq 10 (.pointer (some ⟨gd, 0, none⟩)) (by kernel_rfl) (by kernel_rfl) (by kernel_rfl) (by kernel_rfl) (fun w => (by kernel_rfl)) ?_
      refine fq 11 (.pointer (some ⟨gd, 0, none⟩)) (by kernel_rfl) (by kernel_rfl) (by kernel_rfl) (by kernel_rfl) (fun w => (by kernel_rfl)) ?_
      refine fq 12 (.pointer (some ⟨gd, 0, none⟩)) (by kernel_rfl) (by kernel_rfl) (by kernel_rfl) (by kernel_rfl) (fun w => (by kernel_rfl)) ?_
      refine fq 13 (.pointer (some ⟨gd, 0, none⟩)) (by kernel_rfl) (by kernel_rfl) (by kernel_rfl) (by kernel_rfl) (fun w => (by kernel_rfl)) ?_
      refine fq1 14 (.int .u64 g.secret) 23 (.tmp 13) gd 0 _ (by kernel_rfl) (by kernel_rfl) (by kernel_rfl) (by kernel_rfl) (by kernel_rfl) (by kernel_rfl) Tryz.underlying23 rfl (fun w hw => cell_on hw.1 hgl1 f0) ?_
      refine fq 15 (.int .i64 p) (by kernel_rfl) (by kernel_rfl) (by kernel_rfl) (by kernel_rfl) (fun w => (by kernel_rfl)) ?_
      refine fq 16 (.pointer (some ⟨gd, 0, none⟩)) (by kernel_rfl) (by kernel_rfl) (by kernel_rfl) (by kernel_rfl) (fun w => (by kernel_rfl)) ?_
      refine fq 17 (.pointer (some ⟨gd, 0, none⟩)) (by kernel_rfl) (by kernel_rfl) (by kernel_rfl) (by kernel_rfl) (fun w => (by kernel_rfl)) ?_
      refine fq 18 (.pointer (some ⟨gd, 0, none⟩)) (by kernel_rfl) (by kernel_rfl) (by kernel_rfl) (by kernel_rfl) (fun w => (by kernel_rfl)) ?_
      refine fq 19 (.pointer (some ⟨gd, 1, none⟩)) (by kernel_rfl) (by kernel_rfl) (by kernel_rfl) (by kernel_rfl) (fun w => (by kernel_rfl)) ?_
      refine fq1 20 (.int .i64 g.now) 3 (.tmp 19) gd 1 _ (by kernel_rfl) (by kernel_rfl) (by kernel_rfl) (by kernel_rfl) (by kernel_rfl) (by kernel_rfl) Tryz.underlying3 rfl (fun w hw => cell_on hw.1 hgl1 f1) ?_
      refine fcall 21 128 #[.int .u64 g.secret, .int .i64 p, .int .i64 g.now] (by kernel_rfl) (by kernel_rfl) (by kernel_rfl) (by kernel_rfl) (fun w => (by kernel_rfl)) (fun w hw => (make_any g.secret p g.now s0 s1 n0 n1 w).mono ?hx1) ?_
      case hx1 =>
        rintro e w' ⟨D, dc, rfl, hO, hdc, hb⟩
        exact ⟨_, rfl, fun _ => ⟨D, dc, rfl, hO.x.mono hw.1.size, hdc⟩, hw.1.trans (hb.mono hw.1.size), hb⟩
      rintro v ⟨w', hw', hW⟩
      obtain ⟨D, dc, rfl, h4, hdc⟩ := hW rfl
      clear h4 hW hw' w'
      refine fq 9 (.tuple #[.slice D 16 dc, .int .i64 0]) (by kernel_rfl) (by kernel_rfl) (by kernel_rfl) (by kernel_rfl) (fun w => (by kernel_rfl)) ?_
      refine fq 22 (.slice D 16 dc) (by kernel_rfl) (by kernel_rfl) (by kernel_rfl) (by kernel_rfl) (fun w => (by kernel_rfl)) ?_
      refine fq 23 (.int .i64 0) (by kernel_rfl) (by kernel_rfl) (by kernel_rfl) (by kernel_rfl) (fun w => (by kernel_rfl)) ?_
      refine fend [15, 16] (by kernel_rfl) (by kernel_rfl) ?_
      intro w6 hw6 hF
      obtain ⟨D2, dc2, e2, hO, _⟩ := hF _ List.mem_cons_self rfl
      obtain ⟨rfl, rfl⟩ : D = D2 ∧ dc = dc2 := by injection e2 with e2; simpa using e2
      clear hF e2
      refine tval (some 6) (.slice D 16 dc) w6 (by kernel_rfl) (by kernel_rfl) (by kernel_rfl) ?_
      refine tval (some 7) (.int .i64 0) w6 (by kernel_rfl) (by kernel_rfl) (by kernel_rfl) ?_
      refine tend ?_
      refine (show ∀ (a : Act) (w : World), Met _ a w → _ from by assumption) _ _ ?_
      go_simp
      refine Met.intro ?_
      refine (show ∀ (a : Act) (w : World), _ → _ from by assumption) _ _ ?_
      (repeat apply Exists.intro)
      refine ⟨?rel, rfl⟩
      exact ⟨D, dc, rfl, rfl, hO, hdc, hw6⟩
    -- ]]fst
  case rest =>
    -- [[rest
    obtain ⟨D, dc, rfl, rfl, hO, hdc, hbx⟩ := hcut
    refine (show ∀ (a : Act) (w : World), Code.wp _ _ _ a w → _ from by assumption) _ _ ?_
    refine wp_world (fun w' => OwnX u8c 1 w' w1.heap.size 5 D dc (tokB g.secret p g.now) ∧ Below w1.heap.size w1 w') ⟨hO, hbx⟩ ?_
    clear hO hbx
    rintro w2 ⟨hO, hb2⟩
    have HV2 := Lib.hid ((HV.out.carry HB1.out).carry hb2)
    have HB2 := Lib.hid ((HB1.out.mono hbase).trans (hb2.mono (by have := HB1.out.size; omega)))
    have f2 : w2.cell? ⟨q, 2, none⟩ = some (.int .i64 f) := by rw [(HH.out.carry hb2).cell]; rfl
    have hqs : q < w2.heap.size := (HH.out.carry hb2).lt
    have HRT := Lib.hid hO.rd.b
    clear hO hb2 f0 f1 HB1 HV HH
    go_wp2_with fail
    refine (hEnc_retry f 0 (tokB g.secret p g.now) 16 dc D hf (by decide) (tokB_length _ _ _) (by decide) _ HRT.out).mono ?_
    rintro e w3 ⟨B, bn, bc, rfl, hbn, hOB, hbc, hbm, hb3⟩
    obtain rfl : bn = 20 := by rw [← hbn]; exact retryB_len f _ (by rw [tokB_length]; decide)
    have HV3 := Lib.hid (HV2.out.carry hb3)
    have HB3 := Lib.hid (HB2.out.trans (hb3.mono (by have := HB2.out.size; omega)))
    have HO3 := Lib.hid hOB.x
    have HBN := Lib.hid hbn
    clear hb3 hOB HV2 HB2 hbn
    go_wp2_with fail
    refine (send_yes p hp B 20 bc (retryB f (tokB g.secret p g.now)) HBN.out (by decide) base gd g A n c xs O m co hm10 ms HOK.out h1 h3 h5 w3 HV3.out (HO3.out.mono (Nat.zero_le _)) (by have := HB3.out.size; omega)).mono ?_
    rintro e w4 ⟨rfl, ⟨O', co', hV4⟩, hb4⟩
    go_wp2_with fail
    go_end0
    exact ⟨rfl, ⟨O', co', B, bc, hV4⟩, HB3.out.trans hb4⟩
    -- ]]rest
end Go.Proofs.YtbcagdjfegobnaaGreat
/- A region that draws its order, walked once: more steps. -/
namespace Go.Proofs.YtbcagdjfegobnaaGreat
open Go.RowKit
set_option linter.unusedVariables false

section
variable {P : Program} {ops : Array Oper} {core ev : Nat → Bool} {C : World → Prop} {W : Nat → Act → Value → World → Prop} {R : World → World → Prop} {Q : Exit → Act → World → Prop} {Fin : List Fact → Act → Prop} {k : Nat} {ks : List Nat} {F : List Fact} {a : Act} {w : World} {ts : List Nat}
/-- .. whose value is written otherwise. -/
theorem fqe (d : Tmp) (v0 v : Value) (e : v0 = v) (hk : decide (k < ops.size) = true) (hd : (opK ops k).dst = some d) (hw : Region.wanted (opK ops k) (yielded ops a.tmps) = true) (he : ev k = false) (hs : ∀ w, (execOp a.eval (opK ops k)).run P w = .ok (.value v0) w) (h : flowL P ops ev C W R Fin ks F (a.put (some d) v)) : flowL P ops ev C W R Fin (k :: ks) F a :=
  fq d v hk hd hw he (fun w => by rw [hs w, e]) h
/-- An operation that is not wanted. -/
theorem fskip (d : Option Tmp) (hk : decide (k < ops.size) = true) (hd : (opK ops k).dst = d) (hw : Region.wanted (opK ops k) (yielded ops a.tmps) = false) (h : flowL P ops ev C W R Fin ks F (a.put d undef)) : flowL P ops ev C W R Fin (k :: ks) F a :=
  flow_skip (opK_some hk) hw (by rw [hd]; exact h)
/-- The address of a thing of a slice. -/
theorem fidx (d : Tmp) (t : TypeId) (x y : Operand) (b off n c : Nat) (K : IntKind) (i : Int) (sz : Nat) (to_ : Nat) (hk : decide (k < ops.size) = true) (hd : (opK ops k).dst = some d) (hw : Region.wanted (opK ops k) (yielded ops a.tmps) = true) (he : ev k = false)
    (ho : (opK ops k).op = .indexAddr t x y) (hx : a.eval x = .slice (some ⟨b, off, none⟩) n c) (hy : a.eval y = .int K i) (ht : P.underlying t = some (.slice (P.elem t))) (hz : ∀ w, (sizeOf (P.elem t)).run P w = .ok sz w) (h0 : 0 ≤ i) (h1 : i < n) (hto : off + i.toNat * sz = to_)
    (h : flowL P ops ev C W R Fin ks F (a.put (some d) (.pointer (some ⟨b, to_, none⟩)))) : flowL P ops ev C W R Fin (k :: ks) F a :=
  fq d _ hk hd hw he (fun w => by
    subst hto
    unfold execOp
    simp only [ho, hx, hy, Sem.run_bind, run_indexAt_slice (h := ht), h0, h1, and_self, if_true, hz, Result.andThen_ok, Sem.run_pure, add_none]) h
/-- .. of an array. -/
theorem fidxA (d : Tmp) (t : TypeId) (x y : Operand) (b off n : Nat) (K : IntKind) (i : Int) (sz : Nat) (to_ : Nat) (hk : decide (k < ops.size) = true) (hd : (opK ops k).dst = some d) (hw : Region.wanted (opK ops k) (yielded ops a.tmps) = true) (he : ev k = false)
    (ho : (opK ops k).op = .indexAddr t x y) (hx : a.eval x = .pointer (some ⟨b, off, none⟩)) (hy : a.eval y = .int K i) (ht : P.underlying t = some (.array (P.arrayLen t) (P.elem t))) (hz : ∀ w, (sizeOf (P.elem t)).run P w = .ok sz w) (hn : P.arrayLen t = n) (h0 : 0 ≤ i) (h1 : i < n) (hto : off + i.toNat * sz = to_)
    (h : flowL P ops ev C W R Fin ks F (a.put (some d) (.pointer (some ⟨b, to_, none⟩)))) : flowL P ops ev C W R Fin (k :: ks) F a :=
  fq d _ hk hd hw he (fun w => by
    subst hto
    subst hn
    unfold execOp
    simp only [ho, hx, hy, Sem.run_bind, run_indexAt_array (h := ht), h0, h1, and_self, if_true, hz, Result.andThen_ok, Sem.run_pure, add_none]) h
/-- append of things onto things of the call's own. -/
theorem fapp {α : Type} (d : Tmp) (f : α → List Value) (size : Nat) (hone : ∀ (xs : List α), ∀ u ∈ xs.flatMap f, u.oneCell' = true) (s x : Operand) (t : TypeId) (hk : decide (k < ops.size) = true) (hd : (opK ops k).dst = some d) (hw : Region.wanted (opK ops k) (yielded ops a.tmps) = true) (he : ev k = true)
    (ho : (opK ops k).op = .call { callee := .builtin .append, args := #[s, x], argTypes := #[t, t] })
    (base : Nat) (E : TypeId) (z : Value) (bytes : Nat) (ht : P.underlying t = some (.slice E)) (hinfo : (P.info? E).map (fun i => (i.zero, i.size, i.bytes)) = some (some z, size, bytes)) (hzs : z.cells.size = size) (hsz : 0 < size) (hb1 : 1 ≤ bytes)
    (A0 : Option Addr) (n0 c0 : Nat) (us : List α) (hs : a.eval s = .slice A0 n0 c0) (hn0 : us.length = n0)
    (A : Option Addr) (m0 c : Nat) (bs : List α) (hx : a.eval x = .slice A m0 c) (hm0 : bs.length = m0)
    (zs : List α) (hz : us ++ bs = zs) (kk : Nat) (hkk : n0 + m0 = kk) (hbytes : (n0 + m0) * bytes ≤ 140737488355328)
    (hc : ∀ w, cls ops C F k w → OwnX f size w base E A0 c0 us ∧ RdX f size w A bs ∧ base ≤ w.heap.size ∧ (∀ A' c' w', OwnX f size w' base E A' c' zs → kk ≤ c' → c' ≤ 9223372036854775807 → Below base w w' → w.grownBy w' (A0.map (·.block)) → (A'.map (·.block) = A0.map (·.block) ∨ A'.map (·.block) = some w.heap.size) → W k a (.slice A' kk c') w' ∧ C w' ∧ R w w'))
    (h : ∀ v, (∃ w, C w ∧ W k a v w) → flowL P ops ev C W R Fin ks ((k, W k a v) :: F) (a.put (some d) v)) : flowL P ops ev C W R Fin (k :: ks) F a := by
  refine flow_event (opK_some hk) hw he (fun w hcl => ?_) (fun v hv => by rw [hd]; exact h v hv)
  obtain ⟨hown, hr, hbase, hK⟩ := hc w hcl
  subst hz; subst hn0; subst hm0; subst hkk
  obtain ⟨i, hi, hz, hsize, hby⟩ := info_parts hinfo
  have h63 : us.length + bs.length ≤ maxLen := by
    have : (us.length + bs.length) * 1 ≤ (us.length + bs.length) * bytes := Nat.mul_le_mul_left _ hb1
    unfold maxLen; omega
  obtain ⟨v', w', hrun, h2, h3, h4⟩ := run_append_any (P := P) w base t (opK ops k).type E i z size bytes ht hi hz hsize hby hzs hsz _ us.length (us.flatMap f) hown A bs.length c (bs.flatMap f) hr (hone bs) h63 hbytes hbase
  obtain ⟨A', c', rfl, hc1, hc2⟩ := own_shape _ h2
  have ob : ∀ (X : Option Addr) (n c : Nat), (Value.slice X n c).ownBlock = X.map (·.block) := fun X n c => by cases X <;> rfl
  have h2' : OwnX f size w' base E A' c' (us ++ bs) := by unfold OwnX; rw [List.flatMap_append, List.length_append]; exact h2
  have hfin := hK A' c' w' h2' hc1 (by unfold maxLen at hc2; omega) ((Below.refl _ _).grown h3 hbase (fun k hk => (hown.lt k hk).1)) (by rw [← ob A0 us.length c0]; exact h3) (by rw [ob, ob] at h4; exact h4)
  unfold execOp
  simp only [ho, resolve, invoke, builtin, Sem.run_bind, Sem.run_pure, Result.andThen_ok, List.map_toArray, List.map_cons, List.map_nil, hs, hx, hrun]
  exact hfin
theorem grown_of_below {w w' : World} (h : Below w.heap.size w w') (row : Option Nat) : w.grownBy w' row := ⟨h.os, h.tape, h.output, h.size, fun k hk _ => h.block k hk⟩
theorem grown_refl (w : World) (row : Option Nat) : w.grownBy w row := ⟨rfl, rfl, rfl, Nat.le_refl _, fun _ _ _ => rfl⟩
theorem grown_trans {a b c : World} {row : Option Nat} (h : a.grownBy b row) (k : b.grownBy c row) : a.grownBy c row := ⟨k.os.trans h.os, k.tape.trans h.tape, k.output.trans h.output, Nat.le_trans h.size k.size, fun i hi hne => (k.block i (Nat.lt_of_lt_of_le hi h.size) hne).trans (h.block i hi hne)⟩

theorem run_storeVar_cell (ty : TypeId) (g off : Nat) (t : TypeId) (cs : Array Value) (v : Value) (hv : v.cells = #[v]) (hg : w.heap[g]? = some (.cells cs t (0, 0))) (hi : (P.info? ty).map (·.size) = some 1) (hs : off < cs.size) (h1 : v.oneCell' = true) (hcs : (cs.toList.take off ++ [v] ++ cs.toList.drop (off + 1)).toArray = cs.setIfInBounds off v) :
    (storeVar ty ⟨g, off, none⟩ v).run P w = .ok () (w.setRow g (cs.setIfInBounds off v)) := by
  have := run_storeCells_at (P := P) g off t [v] 0 cs w hg (by simp; omega) (by intro u hu; rw [List.mem_singleton.1 hu]; exact h1)
  cases hq : P.info? ty with
  | none => simp [hq] at hi
  | some i =>
    have hs' : i.size = 1 := by simp [hq] at hi; omega
    simp [storeVar, sizeOf, typeInfo, hq, hv, hs'] at this ⊢
    rw [this]
    simp at hcs
    rw [hcs]
/-- One cell is stored. -/
theorem tstore1 (hd : (opK ops k).dst = none) (hgd : (opK ops k).guard = none) (ty : TypeId) (x y : Operand) (ho : (opK ops k).op = .store ty x y) (g off : Nat) (hx : a.eval x = .pointer (some ⟨g, off, none⟩)) (v : Value) (hy : a.eval y = v) (hv : v.cells = #[v]) (h1 : v.oneCell' = true)
    (t : TypeId) (cs : Array Value) (hg : Blk w g t cs) (hi : (P.info? ty).map (·.size) = some 1) (hs : off < cs.size)
    (h : ∀ w', Blk w' g t (cs.setIfInBounds off v) → Wr g w w' → wpList P ops Q (ts.map (opK ops)) (a.put none undef) w') : wpList P ops Q ((k :: ts).map (opK ops)) a w := by
  have hcs : (cs.toList.take off ++ [v] ++ cs.toList.drop (off + 1)).toArray = cs.setIfInBounds off v := by
    apply Array.toList_inj.1
    have ho : off < cs.toList.length := by simpa using hs
    simp only [Array.toList_setIfInBounds, List.append_assoc, List.cons_append, List.nil_append]
    rw [List.set_eq_take_append_cons_drop, if_pos ho]
  refine tnone none (w.setRow g (cs.setIfInBounds off v)) hd (by simp [Region.wanted, hgd]) ?_ (h _ ?_ (Wr.row _ _ _))
  · unfold execOp
    simp only [ho, hx, hy, Instr.storeAt, Instr.sureAddr, Sem.run_bind, Sem.run_pure, Result.andThen_ok, run_storeVar_cell (P := P) ty g off t cs v hv hg hi hs h1 hcs]
  · exact setRow_heap w g cs _ t (0, 0) hg
/-- append of things onto things of the call's own, behind the core. -/
theorem tapp {α : Type} (d : Tmp) (f : α → List Value) (size : Nat) (hone : ∀ (xs : List α), ∀ u ∈ xs.flatMap f, u.oneCell' = true) (s x : Operand) (t : TypeId) (hd : (opK ops k).dst = some d) (hgd : (opK ops k).guard = none)
    (ho : (opK ops k).op = .call { callee := .builtin .append, args := #[s, x], argTypes := #[t, t] })
    (base : Nat) (E : TypeId) (z : Value) (bytes : Nat) (ht : P.underlying t = some (.slice E)) (hinfo : (P.info? E).map (fun i => (i.zero, i.size, i.bytes)) = some (some z, size, bytes)) (hzs : z.cells.size = size) (hsz : 0 < size) (hb1 : 1 ≤ bytes)
    (A0 : Option Addr) (n0 c0 : Nat) (us : List α) (hs : a.eval s = .slice A0 n0 c0) (hn0 : us.length = n0) (hown : OwnX f size w base E A0 c0 us)
    (A : Option Addr) (m0 c : Nat) (bs : List α) (hx : a.eval x = .slice A m0 c) (hm0 : bs.length = m0) (hr : RdX f size w A bs)
    (zs : List α) (hz : us ++ bs = zs) (kk : Nat) (hkk : n0 + m0 = kk) (hbytes : (n0 + m0) * bytes ≤ 140737488355328) (hbase : base ≤ w.heap.size)
    (h : ∀ A' c' w', OwnX f size w' base E A' c' zs → kk ≤ c' → c' ≤ 9223372036854775807 → Below base w w' → w.grownBy w' (A0.map (·.block)) → (A'.map (·.block) = A0.map (·.block) ∨ A'.map (·.block) = some w.heap.size) → wpList P ops Q (ts.map (opK ops)) (a.put (some d) (.slice A' kk c')) w') : wpList P ops Q ((k :: ts).map (opK ops)) a w := by
  rw [List.map_cons]
  exact wpList_appL f size hone w hgd s x t ho base E z bytes ht hinfo hzs hsz hb1 A0 n0 c0 us hs hn0 hown A m0 c bs hx hm0 hr zs hz kk hkk hbytes hbase (fun A' c' w' h1 h2 h3 h4 h5 h6 => by rw [hd]; exact h A' c' w' h1 h2 h3 h4 h5 h6)
end
end Go.Proofs.YtbcagdjfegobnaaGreat
