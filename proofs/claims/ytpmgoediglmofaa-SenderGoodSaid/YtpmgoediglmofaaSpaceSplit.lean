/- The contracts of space.split and of Acked's closures. -/
import Derived.Test.YtpmgoediglmofaaSpaceFresh
namespace Go.Proofs.Ytpmgoediglmofaa
open Go.ChangeShapes Go.WideShapes Go.ChangeAt Go.RowKit
set_option linter.unusedVariables false

/-- append of things; where the new slice lies. -/
theorem wpList_appL {P : Program} {α : Type} (f : α → List Value) (size : Nat) (hone : ∀ (xs : List α), ∀ u ∈ xs.flatMap f, u.oneCell' = true) (w : World) {ops : Array Oper} {rest : List Oper} {o : Oper} {a : Act} {Q : Exit → Act → World → Prop} (hgd : o.guard = none) (s x : Operand) (t : TypeId)
    (ho : o.op = .call { callee := .builtin .append, args := #[s, x], argTypes := #[t, t] })
    (base : Nat) (E : TypeId) (z : Value) (bytes : Nat) (ht : P.underlying t = some (.slice E)) (hinfo : (P.info? E).map (fun i => (i.zero, i.size, i.bytes)) = some (some z, size, bytes)) (hzs : z.cells.size = size) (hsz : 0 < size) (hb1 : 1 ≤ bytes)
    (A0 : Option Addr) (n0 c0 : Nat) (us : List α) (hs : a.eval s = .slice A0 n0 c0) (hn0 : us.length = n0) (hown : OwnX f size w base E A0 c0 us)
    (A : Option Addr) (m0 c : Nat) (bs : List α) (hx : a.eval x = .slice A m0 c) (hm0 : bs.length = m0) (hr : RdX f size w A bs)
    (zs : List α) (hz : us ++ bs = zs) (k : Nat) (hk : n0 + m0 = k) (hbytes : (n0 + m0) * bytes ≤ 140737488355328) (hbase : base ≤ w.heap.size)
    (h : ∀ A' c' w', OwnX f size w' base E A' c' zs → k ≤ c' → c' ≤ 9223372036854775807 → Below base w w' → w.grownBy w' (A0.map (·.block)) → (A'.map (·.block) = A0.map (·.block) ∨ A'.map (·.block) = some w.heap.size) → wpList P ops Q rest (a.put o.dst (.slice A' k c')) w') : wpList P ops Q (o :: rest) a w := by
  subst hz; subst hn0; subst hm0; subst hk
  refine wpList_plain hgd fun _ hK => ?_
  obtain ⟨i, hi, hz, hsize, hby⟩ := info_parts hinfo
  have h63 : us.length + bs.length ≤ maxLen := by
    have : (us.length + bs.length) * 1 ≤ (us.length + bs.length) * bytes := Nat.mul_le_mul_left _ hb1
    unfold maxLen; omega
  obtain ⟨v', w', hrun, h2, h3, h4⟩ := run_append_any (P := P) w base t o.type E i z size bytes ht hi hz hsize hby hzs hsz _ us.length (us.flatMap f) hown A bs.length c (bs.flatMap f) hr (hone bs) h63 hbytes hbase
  obtain ⟨A', c', rfl, hc1, hc2⟩ := own_shape _ h2
  have ob : ∀ (X : Option Addr) (n c : Nat), (Value.slice X n c).ownBlock = X.map (·.block) := fun X n c => by cases X <;> rfl
  have h2' : OwnX f size w' base E A' c' (us ++ bs) := by unfold OwnX; rw [List.flatMap_append, List.length_append]; exact h2
  unfold Oper.wp execOp
  simp only [ho, resolve, invoke, builtin, Sem.run_bind, Sem.run_pure, Result.andThen_ok, List.map_toArray, List.map_cons, List.map_nil, hs, hx, hrun]
  refine hK _ _ (h A' c' w' h2' hc1 (by unfold maxLen at hc2; omega) ((Below.refl _ _).grown h3 hbase (fun k hk => (hown.lt k hk).1)) (by rw [← ob A0 us.length c0]; exact h3) ?_)
  rw [ob, ob] at h4; exact h4

/-- Does a number lie within ranges? -/
def inR (rs : List Rng) (n : Int) : Bool := rs.any fun r => decide (r.1 ≤ n) && decide (n ≤ r.2)
theorem inR_take (rs : List Rng) (k : Nat) (n : Int) (d : Rng) (hk : k < rs.length) : inR (rs.take (k + 1)) n = (inR (rs.take k) n || (decide ((rs.getD k d).1 ≤ n) && decide (n ≤ (rs.getD k d).2))) := by
  unfold inR
  rw [List.take_succ_eq_append_getElem hk, List.any_append]
  simp [List.getD, hk]
theorem inR_of_take {rs : List Rng} {k : Nat} {n : Int} (h : inR (rs.take k) n = true) : inR rs n = true := by
  unfold inR at h ⊢
  rw [List.any_eq_true] at h ⊢
  obtain ⟨x, hx, h⟩ := h
  exact ⟨x, List.mem_of_mem_take hx, h⟩

set_option maxRecDepth 100000 in
set_option maxHeartbeats 2000000 in
theorem spWithin_any (v : Int) (g : Nat) (L : Option Addr) (m d : Nat) (rs : List Rng) (hm : rs.length = m) (hmd : m ≤ d) (hdm : d ≤ 9223372036854775807) (R : Bool) (hR : inR rs v = R) (w : World) (hg : Blk w g 23 #[.slice L m d]) (hr : RdX rcells 2 w L rs) :
    Calls Try.prog 25 #[.int .i64 v, .pointer (some ⟨g, 0, none⟩)] w fun e w' => e = .returned (.bool R) ∧ Below w.heap.size w w' := by
  have HK := Lib.hid hm
  have HR := Lib.hid hr
  have HB := Lib.hid hR
  have hgc : w.cell? ⟨g, 0, none⟩ = some (.slice L m d) := by rw [hg.cell]; rfl
  clear hm hr hR hg
  go_enter Try.func25, Try.ntmps25
  go_wp2_with fail
  clear hgc
  go_loopw [8] (fun i wr => ∃ j : Nat, j ≤ m ∧ i = .int .i64 j ∧ Hid (inR (rs.take j) v = false) ∧ Below w.heap.size w wr) (fun i _ => m - (intOf i).toNat)
  case atStart => exact ⟨0, Nat.zero_le _, rfl, rfl, Below.refl _ _⟩
  case round =>
    obtain ⟨j, hj, rfl, HT, hb⟩ := hrel
    by_cases hlt : j < m
    · have hlen := HK.out
      obtain ⟨b, off, rfl, hcell⟩ := (RdX.below HR.out hb).rcell (by omega)
      obtain ⟨c0, c1⟩ := hcell j (by omega)
      have HC := Lib.hid (inR_take rs j v (0, 0) (by omega))
      generalize rs.getD j (0, 0) = x at *
      obtain ⟨lo, hi⟩ := x
      simp only at c0 c1
      clear hlen hcell
      by_cases h1 : lo ≤ v
      · by_cases h2 : v ≤ hi
        · have hBt : R = true := by
            rw [← HB.out]; refine inR_of_take (k := j + 1) ?_
            rw [HC.out]; simp [h1, h2]
          subst hBt
          have t1 : decide (lo ≤ v) = true := decide_eq_true h1
          have t2 : decide (v ≤ hi) = true := decide_eq_true h2
          go_wp2_with fail
          go_ret
          exact ⟨rfl, hb.alloc hb.size _⟩
        · have HT2 : Hid (inR (rs.take (j + 1)) v = false) := by
            have h := HC.out; rw [HT.out] at h; unfold Hid; rw [h]; simp [h2]
          have t1 : decide (lo ≤ v) = true := decide_eq_true h1
          have t2 : decide (v ≤ hi) = false := decide_eq_false h2
          go_wp2_with fail
          go_roundw
          case rel => exact ⟨j + 1, by omega, by go_num, HT2, hb.alloc hb.size _⟩
          case measure => simp [intOf]; omega
      · have HT2 : Hid (inR (rs.take (j + 1)) v = false) := by
          have h := HC.out; rw [HT.out] at h; unfold Hid; rw [h]; simp [h1]
        have t1 : decide (lo ≤ v) = false := decide_eq_false h1
        go_wp2_with fail
        go_roundw
        case rel => exact ⟨j + 1, by omega, by go_num, HT2, hb.alloc hb.size _⟩
        case measure => simp [intOf]; omega
    · obtain rfl : j = m := by omega
      have hBt : R = false := by
        rw [← HB.out, ← HT.out, List.take_of_length_le (by have := HK.out; omega)]
      subst hBt
      go_wp2_with fail
      go_ret
      exact ⟨rfl, hb⟩

set_option maxRecDepth 100000 in
set_option maxHeartbeats 2000000 in
theorem spAsk_any (p : Pcl) (g gl : Nat) (L : Option Addr) (m d : Nat) (rs : List Rng) (hm : rs.length = m) (hmd : m ≤ d) (hdm : d ≤ 9223372036854775807) (w : World) (hf : Blk w g 67 #[.func (.func 25) #[] #[.pointer (some ⟨gl, 0, none⟩)]]) (hg : Blk w gl 23 #[.slice L m d]) (hr : RdX rcells 2 w L rs) :
    Calls Try.prog 27 #[.agg #[.int .i64 p.1, .int .i64 p.2.1, .int .i64 p.2.2, .slice none 0 0], .pointer (some ⟨g, 0, none⟩)] w fun e w' => e = .returned (.bool (inR rs p.1)) ∧ Below w.heap.size w w' := by
  have hfc : w.cell? ⟨g, 0, none⟩ = some (.func (.func 25) #[] #[.pointer (some ⟨gl, 0, none⟩)]) := by rw [hf.cell]; rfl
  have hgl := hf.lt
  go_enter Try.func27, Try.ntmps27
  go_wp2_with fail
  refine (spWithin_any p.1 gl L m d rs hm hmd hdm _ rfl _ (hg.alloc _) (RdX.alloc hr _)).mono ?_
  rintro e w1 ⟨rfl, hb1⟩
  go_wp2_with fail
  go_ret
  exact ⟨rfl, ((Below.refl _ _).alloc (Nat.le_refl _) _).trans (hb1.mono (by simp))⟩

set_option maxRecDepth 100000 in
set_option maxHeartbeats 2000000 in
theorem spBack_any (p : Pcl) (g : Nat) (top : Int) (h0 : -9223372036854775805 ≤ top) (h1 : top ≤ 9223372036854775807) (w : World) (hg : Blk w g 3 #[.int .i64 top]) :
    Calls Try.prog 28 #[.agg #[.int .i64 p.1, .int .i64 p.2.1, .int .i64 p.2.2, .slice none 0 0], .pointer (some ⟨g, 0, none⟩)] w fun e w' => e = .returned (.bool (decide (p.1 ≤ top - 3))) ∧ Below w.heap.size w w' := by
  have hfc : w.cell? ⟨g, 0, none⟩ = some (.int .i64 top) := by rw [hg.cell]; rfl
  have hgl := hg.lt
  have hw : IntKind.i64.wrap (top - 3) = top - 3 := by rw [IntKind.wrap_i64]; omega
  go_enter Try.func28, Try.ntmps28
  go_wp2_with fail
  go_ret
  exact ⟨rfl, (Below.refl _ _).alloc (Nat.le_refl _) _⟩

theorem apart_of {X Z : Option Nat} (h : ∀ q, X = some q → Z ≠ some q) : Z = none ∨ Z ≠ X := by
  cases Z with
  | none => exact .inl rfl
  | some q => exact .inr fun e => h q e.symm rfl

theorem filter_take {α : Type} (l : List α) (k : Nat) (d : α) (f : α → Bool) (hk : k < l.length) : (l.take (k + 1)).filter f = (l.take k).filter f ++ (if f (l.getD k d) then [l.getD k d] else []) := by
  rw [takeD l k d hk, List.filter_append]
  simp [List.filter_cons]

set_option maxRecDepth 100000 in
set_option maxHeartbeats 4000000 in
theorem spSplitA (g : Nat) (f : Pcl → Bool) (A : Option Addr) (n c : Nat) (ps : List Pcl) (hn : ps.length = n) (hn24 : n ≤ 24) (hnc : n ≤ c) (hcm : c ≤ 9223372036854775807) (w : World) (hr : RdX pcells 4 w A ps)
    (hcall : ∀ (p : Pcl) (w' : World), Below w.heap.size w w' → Calls Try.prog 27 #[.agg #[.int .i64 p.1, .int .i64 p.2.1, .int .i64 p.2.2, .slice none 0 0], .pointer (some ⟨g, 0, none⟩)] w' fun e w'' => e = .returned (.bool (f p)) ∧ Below w'.heap.size w' w'') :
    Calls Try.prog 26 #[.slice A n c, .func (.func 27) #[] #[.pointer (some ⟨g, 0, none⟩)]] w fun e w' => ∃ (Y : Option Addr) (y cy : Nat) (N : Option Addr) (z cz : Nat), e = .returned (.tuple #[.slice Y y cy, .slice N z cz]) ∧
      (ps.filter f).length = y ∧ y ≤ cy ∧ cy ≤ 9223372036854775807 ∧ (ps.filter fun p => !f p).length = z ∧ z ≤ cz ∧ cz ≤ 9223372036854775807 ∧ OwnX pcells 4 w' w.heap.size 39 Y cy (ps.filter f) ∧ OwnX pcells 4 w' w.heap.size 39 N cz (ps.filter fun p => !f p) ∧ Below w.heap.size w w' := by
  have HN := Lib.hid hn
  have HR := Lib.hid hr
  have HC := Lib.hid hcall
  clear hn hr hcall
  go_enter Try.func26, Try.ntmps26
  go_wp2_with fail
  go_loopw [4, 5, 10] (fun s4 s5 i wr => ∃ (j : Nat) (Y : Option Addr) (y cy : Nat) (N : Option Addr) (z cz : Nat), j ≤ n ∧ i = .int .i64 (j : Int) ∧ s4 = .slice Y y cy ∧ s5 = .slice N z cz ∧ ((ps.take j).filter f).length = y ∧ y ≤ j ∧ y ≤ cy ∧ cy ≤ 9223372036854775807 ∧ ((ps.take j).filter fun p => !f p).length = z ∧ z ≤ j ∧ z ≤ cz ∧ cz ≤ 9223372036854775807 ∧ OwnX pcells 4 wr w.heap.size 39 Y cy ((ps.take j).filter f) ∧ OwnX pcells 4 wr w.heap.size 39 N cz ((ps.take j).filter fun p => !f p) ∧ (∀ q, Y.map (fun y : Addr => y.block) = some q → N.map (fun y : Addr => y.block) ≠ some q) ∧ Below w.heap.size w wr) (fun _ _ i _ => n - (intOf i).toNat)
  case atStart => exact ⟨0, none, 0, 0, none, 0, 0, Nat.zero_le _, rfl, rfl, rfl, rfl, Nat.le_refl _, Nat.le_refl _, by decide, rfl, Nat.le_refl _, Nat.le_refl _, by decide, OwnX.nil _ _ _, OwnX.nil _ _ _, (fun q h => by cases h), Below.refl _ _⟩
  case round =>
    obtain ⟨j, Y, y, cy, N, z, cz, hj, rfl, rfl, rfl, hyl, hyj, hyc, hym, hzl, hzj, hzc, hzm, hY, hN, hne, hb⟩ := hrel
    have HYL := Lib.hid hyl
    have HZL := Lib.hid hzl
    have HY := Lib.hid hY
    have HNN := Lib.hid hN
    have HNE := Lib.hid hne
    have HB := Lib.hid hb
    by_cases hlt : j < n
    · obtain ⟨b, off, rfl, hcell⟩ := (RdX.below HR.out hb).pcl (by have := HN.out; omega)
      obtain ⟨c0, c1, c2, c3⟩ := hcell j (by have := HN.out; omega)
      have HF1 := Lib.hid (filter_take ps j pcln f (by have := HN.out; omega))
      have HF2 := Lib.hid (filter_take ps j pcln (fun p => !f p) (by have := HN.out; omega))
      have hs := hb.size
      generalize ps.getD j pcln = p at *
      obtain ⟨pn, pt, pz⟩ := p
      simp only at c0 c1 c2
      clear hcell hY hN hne hb hyl hzl
      go_upto_region 4 with (fail)
      refine wp_world (fun w' => Blk w' wr.heap.size 39 #[.int .i64 pn, .int .i64 pt, .int .i64 pz, .slice none 0 0] ∧ OwnX pcells 4 w' w.heap.size 39 Y cy ((ps.take j).filter f) ∧ OwnX pcells 4 w' w.heap.size 39 N cz ((ps.take j).filter fun p => !f p) ∧ Below w.heap.size w w') ⟨Blk.new _ _ _, HY.out.alloc _, HNN.out.alloc _, HB.out.alloc HB.out.size _⟩ ?_
      clear c0 c1 c2 c3 HY HNN HB
      generalize wr.heap.size = tb at *
      rintro w1 ⟨hP, hY, hN, hb⟩
      have FP := hP.facts4
      go_wp2_with fail
      refine (HC.out (pn, pt, pz) _ hb).mono ?_
      rintro e w2 ⟨rfl, hb2⟩
      have hP2 := hP.carry hb2
      have HY := Lib.hid (show OwnX pcells 4 w2 w.heap.size 39 Y cy ((ps.take j).filter f) from own_carry hY hb2)
      have HNN := Lib.hid (show OwnX pcells 4 w2 w.heap.size 39 N cz ((ps.take j).filter fun p => !f p) from own_carry hN hb2)
      have HB := Lib.hid (hb.trans (hb2.mono hb.size))
      have htb := hP2.lt
      clear FP hP hY hN hb hb2
      have FP := hP2.facts4
      have hb3 := HB.out.size
      obtain ⟨r, hr⟩ : ∃ r, f (pn, pt, pz) = r := ⟨_, rfl⟩
      rw [hr]
      rw [hr] at HF1 HF2
      clear hr
      cases r with
      | true =>
        have hw3 : w.heap.size ≤ w2.heap.size + 1 := by omega
        go_wp2_with (at_builtin
                     refine wpList_appL pcells 4 pcells_one _ rfl (.tmp 17) (.tmp 19) _ rfl w.heap.size 39 _ 48 Try.underlying22 pclInfo rfl (by decide) (by decide) Y y cy ((ps.take j).filter f) rfl HYL.out (HY.out.alloc _) _ 1 1 [(pn, pt, pz)] rfl rfl (RdX.oneH _ _ (pn, pt, pz) _ rfl rfl (by simp)) _ rfl (y + 1) rfl (by omega) (by simp; omega) ?_
                     intro A6 c6 w6 hO6 hc6 hc6' hb6 hgr6 hat6)
        go_roundw
        case rel =>
          have hlt2 : ∀ q, N.map (fun y : Addr => y.block) = some q → q < w2.heap.size := fun q hq => (HNN.out.lt (n := 0) q (by rw [slice_own]; exact hq)).2
          refine ⟨j + 1, A6, y + 1, c6, N, z, cz, by omega, by go_num, rfl, rfl, ?_, by omega, hc6, hc6', ?_, by omega, hzc, hzm, ?_, ?_, ?_, ?_⟩
          · rw [HF1.out]; simp [HYL.out]
          · rw [HF2.out]; simp [HZL.out]
          · rw [HF1.out]; simpa using hO6
          · rw [HF2.out]
            simp only [Bool.not_true, Bool.false_eq_true, if_false, List.append_nil]
            exact OwnX.grown (HNN.out.alloc _) hgr6 (apart_of HNE.out)
          · intro q hq e
            rcases hat6 with h | h
            · exact HNE.out q (h.symm.trans hq) e
            · have h2 := hlt2 q e
              rw [h] at hq
              injection hq with hq
              simp at hq
              omega
          · exact (HB.out.alloc HB.out.size _).trans (hb6.mono (by first | exact Nat.le_refl _ | (simp; done) | (simp; omega)))
        case measure => simp [intOf]; omega
      | false =>
        have hw3 : w.heap.size ≤ w2.heap.size + 1 := by omega
        go_wp2_with (at_builtin
                     refine wpList_appL pcells 4 pcells_one _ rfl (.tmp 21) (.tmp 23) _ rfl w.heap.size 39 _ 48 Try.underlying22 pclInfo rfl (by decide) (by decide) N z cz ((ps.take j).filter fun p => !f p) rfl HZL.out (HNN.out.alloc _) _ 1 1 [(pn, pt, pz)] rfl rfl (RdX.oneH _ _ (pn, pt, pz) _ rfl rfl (by simp)) _ rfl (z + 1) rfl (by omega) (by simp; omega) ?_
                     intro A6 c6 w6 hO6 hc6 hc6' hb6 hgr6 hat6)
        go_roundw
        case rel =>
          have hlt2 : ∀ q, Y.map (fun y : Addr => y.block) = some q → q < w2.heap.size := fun q hq => (HY.out.lt (n := 0) q (by rw [slice_own]; exact hq)).2
          refine ⟨j + 1, Y, y, cy, A6, z + 1, c6, by omega, by go_num, rfl, rfl, ?_, by omega, hyc, hym, ?_, by omega, hc6, hc6', ?_, ?_, ?_, ?_⟩
          · rw [HF1.out]; simp [HYL.out]
          · rw [HF2.out]; simp [HZL.out]
          · rw [HF1.out]
            simp only [Bool.false_eq_true, if_false, List.append_nil]
            exact OwnX.grown (HY.out.alloc _) hgr6 (apart_of fun q h1 h2 => HNE.out q h2 h1)
          · rw [HF2.out]; simpa using hO6
          · intro q hq e
            rcases hat6 with h | h
            · exact HNE.out q hq (h.symm.trans e)
            · have h2 := hlt2 q hq
              rw [h] at e
              injection e with e
              simp at e
              omega
          · exact (HB.out.alloc HB.out.size _).trans (hb6.mono (by first | exact Nat.le_refl _ | (simp; done) | (simp; omega)))
        case measure => simp [intOf]; omega
    · obtain rfl : j = n := by omega
      have ht : ps.take j = ps := List.take_of_length_le (by have := HN.out; omega)
      rw [ht] at hyl hzl hY hN
      clear HY HNN HYL HZL HNE HB hne
      have HY := Lib.hid hY
      have HNN := Lib.hid hN
      clear hY hN ht
      go_wp2_with fail
      go_ret2
      exact ⟨Y, y, cy, N, z, cz, rfl, hyl, hyc, hym, hzl, hzc, hzm, HY.out, HNN.out, hb⟩
set_option maxRecDepth 100000 in
set_option maxHeartbeats 4000000 in
theorem spSplitB (g : Nat) (f : Pcl → Bool) (A : Option Addr) (n c : Nat) (ps : List Pcl) (hn : ps.length = n) (hn24 : n ≤ 24) (hnc : n ≤ c) (hcm : c ≤ 9223372036854775807) (w : World) (hr : RdX pcells 4 w A ps)
    (hcall : ∀ (p : Pcl) (w' : World), Below w.heap.size w w' → Calls Try.prog 28 #[.agg #[.int .i64 p.1, .int .i64 p.2.1, .int .i64 p.2.2, .slice none 0 0], .pointer (some ⟨g, 0, none⟩)] w' fun e w'' => e = .returned (.bool (f p)) ∧ Below w'.heap.size w' w'') :
    Calls Try.prog 26 #[.slice A n c, .func (.func 28) #[] #[.pointer (some ⟨g, 0, none⟩)]] w fun e w' => ∃ (Y : Option Addr) (y cy : Nat) (N : Option Addr) (z cz : Nat), e = .returned (.tuple #[.slice Y y cy, .slice N z cz]) ∧
      (ps.filter f).length = y ∧ y ≤ cy ∧ cy ≤ 9223372036854775807 ∧ (ps.filter fun p => !f p).length = z ∧ z ≤ cz ∧ cz ≤ 9223372036854775807 ∧ OwnX pcells 4 w' w.heap.size 39 Y cy (ps.filter f) ∧ OwnX pcells 4 w' w.heap.size 39 N cz (ps.filter fun p => !f p) ∧ Below w.heap.size w w' := by
  have HN := Lib.hid hn
  have HR := Lib.hid hr
  have HC := Lib.hid hcall
  clear hn hr hcall
  go_enter Try.func26, Try.ntmps26
  go_wp2_with fail
  go_loopw [4, 5, 10] (fun s4 s5 i wr => ∃ (j : Nat) (Y : Option Addr) (y cy : Nat) (N : Option Addr) (z cz : Nat), j ≤ n ∧ i = .int .i64 (j : Int) ∧ s4 = .slice Y y cy ∧ s5 = .slice N z cz ∧ ((ps.take j).filter f).length = y ∧ y ≤ j ∧ y ≤ cy ∧ cy ≤ 9223372036854775807 ∧ ((ps.take j).filter fun p => !f p).length = z ∧ z ≤ j ∧ z ≤ cz ∧ cz ≤ 9223372036854775807 ∧ OwnX pcells 4 wr w.heap.size 39 Y cy ((ps.take j).filter f) ∧ OwnX pcells 4 wr w.heap.size 39 N cz ((ps.take j).filter fun p => !f p) ∧ (∀ q, Y.map (fun y : Addr => y.block) = some q → N.map (fun y : Addr => y.block) ≠ some q) ∧ Below w.heap.size w wr) (fun _ _ i _ => n - (intOf i).toNat)
  case atStart => exact ⟨0, none, 0, 0, none, 0, 0, Nat.zero_le _, rfl, rfl, rfl, rfl, Nat.le_refl _, Nat.le_refl _, by decide, rfl, Nat.le_refl _, Nat.le_refl _, by decide, OwnX.nil _ _ _, OwnX.nil _ _ _, (fun q h => by cases h), Below.refl _ _⟩
  case round =>
    obtain ⟨j, Y, y, cy, N, z, cz, hj, rfl, rfl, rfl, hyl, hyj, hyc, hym, hzl, hzj, hzc, hzm, hY, hN, hne, hb⟩ := hrel
    have HYL := Lib.hid hyl
    have HZL := Lib.hid hzl
    have HY := Lib.hid hY
    have HNN := Lib.hid hN
    have HNE := Lib.hid hne
    have HB := Lib.hid hb
    by_cases hlt : j < n
    · obtain ⟨b, off, rfl, hcell⟩ := (RdX.below HR.out hb).pcl (by have := HN.out; omega)
      obtain ⟨c0, c1, c2, c3⟩ := hcell j (by have := HN.out; omega)
      have HF1 := Lib.hid (filter_take ps j pcln f (by have := HN.out; omega))
      have HF2 := Lib.hid (filter_take ps j pcln (fun p => !f p) (by have := HN.out; omega))
      have hs := hb.size
      generalize ps.getD j pcln = p at *
      obtain ⟨pn, pt, pz⟩ := p
      simp only at c0 c1 c2
      clear hcell hY hN hne hb hyl hzl
      go_upto_region 4 with (fail)
      refine wp_world (fun w' => Blk w' wr.heap.size 39 #[.int .i64 pn, .int .i64 pt, .int .i64 pz, .slice none 0 0] ∧ OwnX pcells 4 w' w.heap.size 39 Y cy ((ps.take j).filter f) ∧ OwnX pcells 4 w' w.heap.size 39 N cz ((ps.take j).filter fun p => !f p) ∧ Below w.heap.size w w') ⟨Blk.new _ _ _, HY.out.alloc _, HNN.out.alloc _, HB.out.alloc HB.out.size _⟩ ?_
      clear c0 c1 c2 c3 HY HNN HB
      generalize wr.heap.size = tb at *
      rintro w1 ⟨hP, hY, hN, hb⟩
      have FP := hP.facts4
      go_wp2_with fail
      refine (HC.out (pn, pt, pz) _ hb).mono ?_
      rintro e w2 ⟨rfl, hb2⟩
      have hP2 := hP.carry hb2
      have HY := Lib.hid (show OwnX pcells 4 w2 w.heap.size 39 Y cy ((ps.take j).filter f) from own_carry hY hb2)
      have HNN := Lib.hid (show OwnX pcells 4 w2 w.heap.size 39 N cz ((ps.take j).filter fun p => !f p) from own_carry hN hb2)
      have HB := Lib.hid (hb.trans (hb2.mono hb.size))
      have htb := hP2.lt
      clear FP hP hY hN hb hb2
      have FP := hP2.facts4
      have hb3 := HB.out.size
      obtain ⟨r, hr⟩ : ∃ r, f (pn, pt, pz) = r := ⟨_, rfl⟩
      rw [hr]
      rw [hr] at HF1 HF2
      clear hr
      cases r with
      | true =>
        have hw3 : w.heap.size ≤ w2.heap.size + 1 := by omega
        go_wp2_with (at_builtin
                     refine wpList_appL pcells 4 pcells_one _ rfl (.tmp 17) (.tmp 19) _ rfl w.heap.size 39 _ 48 Try.underlying22 pclInfo rfl (by decide) (by decide) Y y cy ((ps.take j).filter f) rfl HYL.out (HY.out.alloc _) _ 1 1 [(pn, pt, pz)] rfl rfl (RdX.oneH _ _ (pn, pt, pz) _ rfl rfl (by simp)) _ rfl (y + 1) rfl (by omega) (by simp; omega) ?_
                     intro A6 c6 w6 hO6 hc6 hc6' hb6 hgr6 hat6)
        go_roundw
        case rel =>
          have hlt2 : ∀ q, N.map (fun y : Addr => y.block) = some q → q < w2.heap.size := fun q hq => (HNN.out.lt (n := 0) q (by rw [slice_own]; exact hq)).2
          refine ⟨j + 1, A6, y + 1, c6, N, z, cz, by omega, by go_num, rfl, rfl, ?_, by omega, hc6, hc6', ?_, by omega, hzc, hzm, ?_, ?_, ?_, ?_⟩
          · rw [HF1.out]; simp [HYL.out]
          · rw [HF2.out]; simp [HZL.out]
          · rw [HF1.out]; simpa using hO6
          · rw [HF2.out]
            simp only [Bool.not_true, Bool.false_eq_true, if_false, List.append_nil]
            exact OwnX.grown (HNN.out.alloc _) hgr6 (apart_of HNE.out)
          · intro q hq e
            rcases hat6 with h | h
            · exact HNE.out q (h.symm.trans hq) e
            · have h2 := hlt2 q e
              rw [h] at hq
              injection hq with hq
              simp at hq
              omega
          · exact (HB.out.alloc HB.out.size _).trans (hb6.mono (by first | exact Nat.le_refl _ | (simp; done) | (simp; omega)))
        case measure => simp [intOf]; omega
      | false =>
        have hw3 : w.heap.size ≤ w2.heap.size + 1 := by omega
        go_wp2_with (at_builtin
                     refine wpList_appL pcells 4 pcells_one _ rfl (.tmp 21) (.tmp 23) _ rfl w.heap.size 39 _ 48 Try.underlying22 pclInfo rfl (by decide) (by decide) N z cz ((ps.take j).filter fun p => !f p) rfl HZL.out (HNN.out.alloc _) _ 1 1 [(pn, pt, pz)] rfl rfl (RdX.oneH _ _ (pn, pt, pz) _ rfl rfl (by simp)) _ rfl (z + 1) rfl (by omega) (by simp; omega) ?_
                     intro A6 c6 w6 hO6 hc6 hc6' hb6 hgr6 hat6)
        go_roundw
        case rel =>
          have hlt2 : ∀ q, Y.map (fun y : Addr => y.block) = some q → q < w2.heap.size := fun q hq => (HY.out.lt (n := 0) q (by rw [slice_own]; exact hq)).2
          refine ⟨j + 1, Y, y, cy, A6, z + 1, c6, by omega, by go_num, rfl, rfl, ?_, by omega, hyc, hym, ?_, by omega, hc6, hc6', ?_, ?_, ?_, ?_⟩
          · rw [HF1.out]; simp [HYL.out]
          · rw [HF2.out]; simp [HZL.out]
          · rw [HF1.out]
            simp only [Bool.false_eq_true, if_false, List.append_nil]
            exact OwnX.grown (HY.out.alloc _) hgr6 (apart_of fun q h1 h2 => HNE.out q h2 h1)
          · rw [HF2.out]; simpa using hO6
          · intro q hq e
            rcases hat6 with h | h
            · exact HNE.out q hq (h.symm.trans e)
            · have h2 := hlt2 q hq
              rw [h] at e
              injection e with e
              simp at e
              omega
          · exact (HB.out.alloc HB.out.size _).trans (hb6.mono (by first | exact Nat.le_refl _ | (simp; done) | (simp; omega)))
        case measure => simp [intOf]; omega
    · obtain rfl : j = n := by omega
      have ht : ps.take j = ps := List.take_of_length_le (by have := HN.out; omega)
      rw [ht] at hyl hzl hY hN
      clear HY HNN HYL HZL HNE HB hne
      have HY := Lib.hid hY
      have HNN := Lib.hid hN
      clear hY hN ht
      go_wp2_with fail
      go_ret2
      exact ⟨Y, y, cy, N, z, cz, rfl, hyl, hyc, hym, hzl, hzc, hzm, HY.out, HNN.out, hb⟩
end Go.Proofs.Ytpmgoediglmofaa
