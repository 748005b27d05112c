/- The contract of space.fresh. -/
import Derived.Test.YtpmgoediglmofaaSpace
namespace Go.Proofs.Ytpmgoediglmofaa
open Go.ChangeShapes Go.WideShapes Go.ChangeAt Go.RowKit
set_option linter.unusedVariables false

/-- append of things onto things of the call's own, as a step of a region that draws; where the new slice lies. -/
theorem step_appL {P : Program} {α : Type} (f : α → List Value) (size : Nat) (hone : ∀ (xs : List α), ∀ u ∈ xs.flatMap f, u.oneCell' = true) {w : World} {ops : Array Oper} {o : Oper} {a : Act} {K : Act → World → Prop} {Q : Exit → Act → World → Prop} {E' : Prop} (hg : o.guard = none) (s x : Operand) (t : TypeId)
    (ho : o.op = .call { callee := .builtin .append, args := #[s, x], argTypes := #[t, t] })
    (base : Nat) (E : TypeId) (z : Value) (bytes : Nat) (ht : P.underlying t = some (.slice E)) (hinfo : (P.info? E).map (fun i => (i.zero, i.size, i.bytes)) = some (some z, size, bytes)) (hzs : z.cells.size = size) (hsz : 0 < size) (hb1 : 1 ≤ bytes)
    (A0 : Option Addr) (n0 c0 : Nat) (us : List α) (hs : a.eval s = .slice A0 n0 c0) (hn0 : us.length = n0) (hown : OwnX f size w base E A0 c0 us)
    (A : Option Addr) (m0 c : Nat) (bs : List α) (hx : a.eval x = .slice A m0 c) (hm0 : bs.length = m0) (hr : RdX f size w A bs)
    (zs : List α) (hz : us ++ bs = zs) (k : Nat) (hk : n0 + m0 = k) (hbytes : (n0 + m0) * bytes ≤ 140737488355328) (hbase : base ≤ w.heap.size)
    (h : ∀ A' c' w', OwnX f size w' base E A' c' zs → k ≤ c' → c' ≤ 9223372036854775807 → Below base w w' → w.grownBy w' (A0.map (·.block)) → (A'.map (·.block) = A0.map (·.block) ∨ A'.map (·.block) = some w.heap.size) → K (a.put o.dst (.slice A' k c')) w') :
    if Region.wanted o (yielded ops a.tmps) = true then Oper.wp P o a w K Q else E' := by
  subst hz; subst hn0; subst hm0; subst hk
  rw [if_pos (by simp [Region.wanted, hg])]
  obtain ⟨i, hi, hz, hsize, hby⟩ := info_parts hinfo
  have h63 : us.length + bs.length ≤ maxLen := by
    have : (us.length + bs.length) * 1 ≤ (us.length + bs.length) * bytes := Nat.mul_le_mul_left _ hb1
    unfold maxLen; omega
  obtain ⟨v', w', hrun, h2, h3, h4⟩ := run_append_any (P := P) w base t o.type E i z size bytes ht hi hz hsize hby hzs hsz _ us.length (us.flatMap f) hown A bs.length c (bs.flatMap f) hr (hone bs) h63 hbytes hbase
  obtain ⟨A', c', rfl, hc1, hc2⟩ := own_shape _ h2
  have ob : ∀ (X : Option Addr) (n c : Nat), (Value.slice X n c).ownBlock = X.map (·.block) := fun X n c => by cases X <;> rfl
  have h2' : OwnX f size w' base E A' c' (us ++ bs) := by unfold OwnX; rw [List.flatMap_append, List.length_append]; exact h2
  unfold Oper.wp execOp
  simp only [ho, resolve, invoke, builtin, Sem.run_bind, Sem.run_pure, Result.andThen_ok, List.map_toArray, List.map_cons, List.map_nil, hs, hx, hrun]
  refine h A' c' w' h2' hc1 (by unfold maxLen at hc2; omega) ((Below.refl _ _).grown h3 hbase (fun k hk => (hown.lt k hk).1)) (by rw [← ob A0 us.length c0]; exact h3) ?_
  rw [ob, ob] at h4; exact h4

theorem slice_own (X : Option Addr) (n c : Nat) : (Value.slice X n c).ownBlock = X.map (·.block) := by cases X <;> rfl
theorem own_grown {w0 w' : World} {base : Nat} {e : TypeId} {size n : Nat} {v : Value} {xs : List Value} {row : Option Nat} (h : w0.ownsRow base e size v n xs) (hb : w0.grownBy w' row) (hne : ∀ k, v.ownBlock = some k → some k ≠ row) : w'.ownsRow base e size v n xs := by
  refine ⟨h.1, ?_⟩
  rcases h.2 with h2 | ⟨g, cap, cur, hv, hg, hh, r⟩
  · exact .inl h2
  · exact .inr ⟨g, cap, cur, hv, hg, (hb.block g (Array.getElem?_eq_some_iff.1 hh).1 (hne g (by rw [hv]; rfl))).trans hh, r⟩
theorem takeD {α : Type} (l : List α) (k : Nat) (d : α) (h : k < l.length) : l.take (k + 1) = l.take k ++ [l.getD k d] := by
  rw [List.take_succ_eq_append_getElem h]; simp [List.getD, h]
theorem OwnX.madeH {α : Type} (f : α → List Value) (m : Nat) (w : World) (base : Nat) (E : TypeId) (hb : base ≤ w.heap.size) {H : Nat} (hH : w.heap.size = H) : OwnX f m (w.alloc (.cells #[] E)) base E (some ⟨H, 0, none⟩) 0 [] := by
  subst hH; exact OwnX.made f m w base E hb
theorem OwnX.grown {α : Type} {f : α → List Value} {m : Nat} {w w' : World} {base : Nat} {E : TypeId} {A : Option Addr} {c : Nat} {xs : List α} {row : Option Nat} (h : OwnX f m w base E A c xs) (hb : w.grownBy w' row) (hne : A.map (·.block) = none ∨ A.map (·.block) ≠ row) : OwnX f m w' base E A c xs :=
  own_grown h hb fun k hk e => by
    have ob : ∀ (X : Option Addr) (n c : Nat), (Value.slice X n c).ownBlock = X.map (·.block) := fun X n c => by cases X <;> rfl
    rw [ob] at hk
    rcases hne with h1 | h1
    · rw [h1] at hk; cases hk
    · exact h1 (hk.trans e)

set_option maxRecDepth 100000 in
set_option maxHeartbeats 4000000 in
theorem spFresh_any (nx : Int) (A : Option Addr) (n c : Nat) (top : Int) (B : Option Addr) (m d : Nat) (C : Option Addr) (k e : Nat) (ps : List Pcl) (hs : List Rng) (ks : List Int) (hn : ps.length = n) (hm : hs.length = m) (hk : ks.length = k)
    (hnc : n ≤ c) (hcm : c ≤ 9223372036854775807) (hmd : m ≤ d) (hdm : d ≤ 9223372036854775807) (hke : k ≤ e) (hem : e ≤ 9223372036854775807) (pl : n ≤ 24) (hl : m ≤ 6) (kl : k ≤ 6) (w : World) (hA : RdX pcells 4 w A ps) (hB : RdX rcells 2 w B hs) (hC : RdX icells 1 w C ks) :
    Calls Try.prog 23 #[.agg #[.int .i64 nx, .slice A n c, .int .i64 top, .slice B m d, .slice C k e]] w fun e' w' => ∃ (A' : Option Addr) (c' : Nat) (B' : Option Addr) (d' : Nat) (C' : Option Addr) (k' M : Nat), e' = .returned (.agg #[.int .i64 nx, .slice A' n c', .int .i64 top, .slice B' m d', .slice C' k k']) ∧ (n ≤ c' ∧ c' ≤ 9223372036854775807) ∧ (m ≤ d' ∧ d' ≤ 9223372036854775807) ∧ (k ≤ k' ∧ k' ≤ 9223372036854775807) ∧
      w.heap.size ≤ M ∧ M ≤ w'.heap.size ∧ (∀ x, A' = some x → x.block < M) ∧ OwnX pcells 4 w' w.heap.size 39 A' c' ps ∧ OwnX rcells 2 w' M 35 B' d' hs ∧ OwnX icells 1 w' M 3 C' k' ks ∧ Below w.heap.size w w' := by
  have HN := Lib.hid hn
  have HM := Lib.hid hm
  have HK := Lib.hid hk
  have HA := Lib.hid hA
  have HB := Lib.hid hB
  have HC := Lib.hid hC
  clear hn hm hk hA hB hC
  go_enter Try.func23, Try.ntmps23
  go_upto_region 1 with (fail)
  refine wp_world (fun w' => Blk w' w.heap.size 26 #[.int .i64 nx, .slice A n c, .int .i64 top, .slice B m d, .slice C k e] ∧ Blk w' (w.heap.size + 1) 26 #[.int .i64 0, .slice none 0 0, .int .i64 0, .slice none 0 0, .slice none 0 0] ∧ Below w.heap.size w w') ⟨(Blk.new _ _ _).alloc _, Blk.new1 _ _ _ _, ((Below.refl _ _).alloc (Nat.le_refl _) _).alloc (by simp) _⟩ ?_
  rintro w1 ⟨hS, hZ, hb1⟩
  have FS := hS.facts5
  go_wp2_with fail
  go_loopw [3, 9] (fun s3 i wr => ∃ (j : Nat) (A' : Option Addr) (c' : Nat), j ≤ n ∧ i = .int .i64 j ∧ s3 = .slice A' j c' ∧ j ≤ c' ∧ c' ≤ 9223372036854775807 ∧ OwnX pcells 4 wr (w.heap.size + 2) 39 A' c' (ps.take j) ∧ Blk wr w.heap.size 26 #[.int .i64 nx, .slice A n c, .int .i64 top, .slice B m d, .slice C k e] ∧ Blk wr (w.heap.size + 1) 26 #[.int .i64 0, .slice none 0 0, .int .i64 0, .slice none 0 0, .slice none 0 0] ∧ Below w.heap.size w wr) (fun _ i _ => n - (intOf i).toNat)
  case atStart => exact ⟨0, none, 0, Nat.zero_le _, rfl, rfl, Nat.le_refl _, by decide, OwnX.nil _ _ _, hS, hZ, hb1⟩
  case round =>
    obtain ⟨j, A', c', hj, rfl, rfl, hjc, hcm', hO, hSr, hZr, hbr⟩ := hrel
    clear FS hS hZ hb1
    have HO := Lib.hid hO
    clear hO
    by_cases hlt : j < n
    · have hlen := HN.out
      obtain ⟨b, off, rfl, hcell⟩ := (RdX.below HA.out hbr).pcl (by omega)
      obtain ⟨c0, c1, c2, c3⟩ := hcell j (by omega)
      have HT := Lib.hid (takeD ps j pcln (by omega))
      have HLJ : Hid ((ps.take j).length = j) := by show _ = _; rw [List.length_take]; omega
      have HOL : Hid (∀ k, (Value.slice A' (ps.take j).length c').ownBlock = some k → k ≠ wr.heap.size) := fun k hk => by have := (HO.out.lt k hk).2; omega
      generalize ps.getD j pcln = p at *
      obtain ⟨pn, pt, pz⟩ := p
      simp only at c0 c1 c2
      clear hlen hcell
      have hzl := hZr.lt
      go_upto_region 5 with (fail)
      refine wp_world (fun w' => Blk w' w.heap.size 26 #[.int .i64 nx, .slice (some ⟨b, off, none⟩) n c, .int .i64 top, .slice B m d, .slice C k e] ∧ Blk w' (w.heap.size + 1) 26 #[.int .i64 0, .slice none 0 0, .int .i64 0, .slice none 0 0, .slice none 0 0] ∧ Blk w' wr.heap.size 39 #[.int .i64 pn, .int .i64 pt, .int .i64 pz, .slice none 0 0] ∧ OwnX pcells 4 w' (w.heap.size + 2) 39 A' c' (ps.take j) ∧ Below w.heap.size w w') ⟨hSr.alloc _, hZr.alloc _, Blk.new _ _ _, HO.out.alloc _, hbr.alloc hbr.size _⟩ ?_
      clear c0 c1 c2 c3 hSr hbr hZr HO
      rintro w3 ⟨hS, hZ, hP, hO, hb⟩
      have FP := hP.facts4
      have HO := Lib.hid hO
      clear hO
      go_wp2_with fail
      refine (spFrames_nil _).mono ?_
      rintro e2 w4 ⟨rfl, rfl⟩
      go_upto_region 6 with (fail)
      refine wp_world (fun w' => Blk w' w.heap.size 26 #[.int .i64 nx, .slice (some ⟨b, off, none⟩) n c, .int .i64 top, .slice B m d, .slice C k e] ∧ Blk w' (w.heap.size + 1) 26 #[.int .i64 0, .slice none 0 0, .int .i64 0, .slice none 0 0, .slice none 0 0] ∧ Blk w' wr.heap.size 39 #[.int .i64 pn, .int .i64 pt, .int .i64 pz, .slice none 0 0] ∧ OwnX pcells 4 w' (w.heap.size + 2) 39 A' c' (ps.take j) ∧ Below w.heap.size w w') ⟨by (apply Blk.as; (case h => (repeat (first | with_reducible exact hS | with_reducible apply Blk.drew | with_reducible apply Blk.set4 | with_reducible apply Blk.set_ | (with_reducible apply Blk.far4 (hne := ?side); case side => (first | omega | (simp; omega) | (simp; done))) | (with_reducible apply Blk.far (hp := ?side); case side => (first | omega | (simp; omega) | (simp; done))) | with_reducible apply Blk.alloc))); (case e => (first | with_reducible rfl | (simp; done) | rfl))), by (apply Blk.as; (case h => (repeat (first | with_reducible exact hZ | with_reducible apply Blk.drew | with_reducible apply Blk.set4 | with_reducible apply Blk.set_ | (with_reducible apply Blk.far4 (hne := ?side); case side => (first | omega | (simp; omega) | (simp; done))) | (with_reducible apply Blk.far (hp := ?side); case side => (first | omega | (simp; omega) | (simp; done))) | with_reducible apply Blk.alloc))); (case e => (first | with_reducible rfl | (simp; done) | rfl))), (hP.set_ 3 _).as (by rfl), ?_, by (repeat (first | with_reducible exact hb | with_reducible refine Below.drew ?_ | (with_reducible refine Below.set4 ?_ ?side _ _ _ _; case side => (first | omega | (simp; omega) | (simp; done))) | (with_reducible refine Below.setCell ?_ ?side _; case side => (first | omega | (simp; omega) | (simp; done))) | (with_reducible refine Below.alloc ?_ ?side _; case side => (first | omega | (simp; omega) | (simp; done)))))⟩ ?_
      · have hO := HO.out
        first | exact own_far hO HOL.out _ | exact own_far hO.drew HOL.out _
      clear FP HO hS hZ hP hb
      rintro w5 ⟨hS, hZ, hP, hO, hb⟩
      have FP := hP.facts4
      have HO := Lib.hid hO
      clear hO
      go_wp2_with (at_builtin
                   refine wpList_appX pcells 4 pcells_one _ rfl (.tmp 17) (.tmp 19) _ rfl (w.heap.size + 2) 39 _ 48 Try.underlying22 pclInfo rfl (by decide) (by decide) A' j c' (ps.take j) rfl HLJ.out (HO.out.alloc _) _ 1 1 [(pn, pt, pz)] rfl rfl (RdX.oneH _ _ (pn, pt, pz) _ rfl rfl (by simp)) _ rfl (j + 1) rfl (by omega) (by simp; omega) ?_
                   intro A6 c6 w6 hO6 hc6 hc6' hb6 hgr6)
      have hS6 := (hS.alloc (.cells #[.int .i64 pn, .int .i64 pt, .int .i64 pz, .slice none 0 0] 39)).below hb6 (by omega)
      have hZ6 := (hZ.alloc (.cells #[.int .i64 pn, .int .i64 pt, .int .i64 pz, .slice none 0 0] 39)).below hb6 (by omega)
      have hb7 := (hb.alloc hb.size (.cells #[.int .i64 pn, .int .i64 pt, .int .i64 pz, .slice none 0 0] 39)).trans (hb6.mono (by omega))
      rw [← HT.out] at hO6
      have HO6 := Lib.hid hO6
      clear FP hO6 hb6 hgr6 HO hS hZ hP hb
      go_wp2_with fail
      go_roundw
      case rel => exact ⟨j + 1, A6, c6, by omega, by go_num, rfl, hc6, hc6', HO6.out, hS6, hZ6, hb7⟩
      case measure => simp [intOf]; omega
    · obtain rfl : n = j := by omega
      have hO2 : OwnX pcells 4 wr (w.heap.size + 2) 39 A' c' ps := by
        have := HO.out; rwa [List.take_of_length_le (by rw [HN.out]; exact Nat.le_refl _)] at this
      have FS := hSr.facts5
      have hzl := hZr.lt
      go_upto_region 9 with (fail)
      refine wp_world (fun w' => Blk w' w.heap.size 26 #[.int .i64 nx, .slice A' n c', .int .i64 top, .slice B m d, .slice C k e] ∧ Blk w' (w.heap.size + 1) 26 #[.int .i64 0, .slice none 0 0, .int .i64 0, .slice none 0 0, .slice none 0 0] ∧ OwnX pcells 4 w' (w.heap.size + 2) 39 A' c' ps ∧ Below w.heap.size w w') ⟨by (apply Blk.as; (case h => (repeat (first | with_reducible exact hSr | with_reducible apply Blk.drew | with_reducible apply Blk.set4 | with_reducible apply Blk.set_ | (with_reducible apply Blk.far4 (hne := ?side); case side => (first | omega | (simp; omega) | (simp; done))) | (with_reducible apply Blk.far (hp := ?side); case side => (first | omega | (simp; omega) | (simp; done))) | with_reducible apply Blk.alloc))); (case e => (first | with_reducible rfl | (simp; done) | rfl))), by (apply Blk.as; (case h => (repeat (first | with_reducible exact hZr | with_reducible apply Blk.drew | with_reducible apply Blk.set4 | with_reducible apply Blk.set_ | (with_reducible apply Blk.far4 (hne := ?side); case side => (first | omega | (simp; omega) | (simp; done))) | (with_reducible apply Blk.far (hp := ?side); case side => (first | omega | (simp; omega) | (simp; done))) | with_reducible apply Blk.alloc))); (case e => (first | with_reducible rfl | (simp; done) | rfl))), by (first | exact hO2.set_below (by first | (simp; done) | (simp; omega)) _ | exact (hO2.set_below (by first | (simp; done) | (simp; omega)) _).drew), by (repeat (first | with_reducible exact hbr | with_reducible refine Below.drew ?_ | (with_reducible refine Below.set4 ?_ ?side _ _ _ _; case side => (first | omega | (simp; omega) | (simp; done))) | (with_reducible refine Below.setCell ?_ ?side _; case side => (first | omega | (simp; omega) | (simp; done))) | (with_reducible refine Below.alloc ?_ ?side _; case side => (first | omega | (simp; omega) | (simp; done)))))⟩ ?_
      clear FS HO hO2 hSr hZr hbr hzl
      rintro w3 ⟨hS, hZ, hO, hb⟩
      have FS := hS.facts5
      have hgs := hS.lt
      have hgn3 : w3.heap.size ≠ w.heap.size := by omega
      have hgz := hZ.lt
      have hAl : ∀ x, A' = some x → x.block < w3.heap.size := fun x hx => (hO.lt (n := 0) x.block (by rw [slice_own, hx]; rfl)).2
      have HAL := Lib.hid hAl
      clear hAl
      have HO := Lib.hid hO
      have HB3 := Lib.hid (RdX.below HB.out hb)
      have HC3 := Lib.hid (RdX.below HC.out hb)
      clear hO
      go_region_law ((first
        | (refine step_appL icells 1 icells_one (by rfl) _ _ _ (by rfl) w3.heap.size 3 _ 8 Try.underlying24 intInfo rfl (by decide) (by decide) _ 0 0 [] (by rfl) rfl (by first | exact OwnX.madeH icells 1 _ _ 3 (by first | exact Nat.le_refl _ | omega | (simp; done) | (simp; omega)) (by first | rfl | (simp; done) | (simp; omega)) | exact OwnX.grown (by first | exact OwnX.madeH icells 1 _ _ 3 (by first | exact Nat.le_refl _ | omega | (simp; done) | (simp; omega)) (by first | rfl | (simp; done) | (simp; omega)) | exact (OwnX.madeH icells 1 _ _ 3 (by first | exact Nat.le_refl _ | omega | (simp; done) | (simp; omega)) (by first | rfl | (simp; done) | (simp; omega))).alloc _) hgr5 (.inr (by first | (simp; done) | (simp; omega)))) C k e ks (by rfl) HK.out (RdX.below HC3.out (by first | exact hbb5 | exact hbb5.alloc hbb5.size _)) ks rfl k (by omega) (by omega) (by first | exact Nat.le_refl _ | omega | (simp; done) | (simp; omega)) ?_; intro A6 c6 w6 hO6 hc6 hm6 hb6 hgr6 hat6; have hbb6 : Below w3.heap.size w3 w6 := (by refine Below.trans ?_ hb6; first | exact hbb5 | exact hbb5.alloc hbb5.size _); have kl6 : w.heap.size < w6.heap.size := (by have := hbb6.size; omega); have k3 := (hbb6.cell (p := ⟨w.heap.size, 3, none⟩) hgs).trans FS.2.2.2.2.1; have k4 := (hbb6.cell (p := ⟨w.heap.size, 4, none⟩) hgs).trans FS.2.2.2.2.2.1; have k5 := hbb6.frozen (p := ⟨w.heap.size, 3, none⟩) hgs; have k6 := hbb6.frozen (p := ⟨w.heap.size, 4, none⟩) hgs; rw [hS.frozen] at k5 k6)
        | (refine step_appL rcells 2 rcells_one (by rfl) _ _ _ (by rfl) w3.heap.size 35 _ 16 Try.underlying23 rngInfo rfl (by decide) (by decide) _ 0 0 [] (by rfl) rfl (by first | exact OwnX.madeH rcells 2 _ _ 35 (by first | exact Nat.le_refl _ | omega | (simp; done) | (simp; omega)) (by first | rfl | (simp; done) | (simp; omega)) | exact (OwnX.madeH rcells 2 _ _ 35 (by first | exact Nat.le_refl _ | omega | (simp; done) | (simp; omega)) (by first | rfl | (simp; done) | (simp; omega))).alloc _) B m d hs (by rfl) HM.out (RdX.below HB3.out (by (repeat (first | with_reducible exact (Below.refl _ _) | with_reducible refine Below.drew ?_ | (with_reducible refine Below.set4 ?_ ?side _ _ _ _; case side => (first | omega | (simp; omega) | (simp; done))) | (with_reducible refine Below.setCell ?_ ?side _; case side => (first | omega | (simp; omega) | (simp; done))) | (with_reducible refine Below.alloc ?_ ?side _; case side => (first | omega | (simp; omega) | (simp; done))))))) hs rfl m (by omega) (by omega) (by first | exact Nat.le_refl _ | omega | (simp; done) | (simp; omega)) ?_; intro A5 c5 w5 hO5 hc5 hm5 hb5 hgr5 hat5; have hbb5 : Below w3.heap.size w3 w5 := (by refine Below.trans ?_ hb5; (repeat (first | with_reducible exact (Below.refl _ _) | with_reducible refine Below.drew ?_ | (with_reducible refine Below.set4 ?_ ?side _ _ _ _; case side => (first | omega | (simp; omega) | (simp; done))) | (with_reducible refine Below.setCell ?_ ?side _; case side => (first | omega | (simp; omega) | (simp; done))) | (with_reducible refine Below.alloc ?_ ?side _; case side => (first | omega | (simp; omega) | (simp; done)))))); have jl5 : w.heap.size < w5.heap.size := (by have := hbb5.size; omega); have hz35 := hbb5.size; have j3 := (hbb5.cell (p := ⟨w.heap.size, 3, none⟩) hgs).trans FS.2.2.2.2.1; have j4 := (hbb5.cell (p := ⟨w.heap.size, 4, none⟩) hgs).trans FS.2.2.2.2.2.1; have j5 := hbb5.frozen (p := ⟨w.heap.size, 3, none⟩) hgs; have j6 := hbb5.frozen (p := ⟨w.heap.size, 4, none⟩) hgs; rw [hS.frozen] at j5 j6)))
      all_goals
        have hlt5 : ∀ k, A5.map (fun y : Addr => y.block) = some k → k < w5.heap.size := fun k hk => (hO5.lt (n := 0) k (by rw [slice_own]; exact hk)).2
        have hO7 : OwnX rcells 2 w6 w3.heap.size 35 A5 c5 hs := OwnX.grown (by first | exact hO5 | exact hO5.alloc _) hgr6 (.inr fun e => by
          rcases hat5 with h | h <;> (have h1 := hlt5 _ h; rw [h] at e; injection e with e; first | omega | (simp at e h1; done) | (simp at e h1; omega)))
        have hA6 : OwnX pcells 4 w6 (w.heap.size + 2) 39 A' c' ps := own_carry HO.out hbb6
        have hcA := hA6.cap
        rw [HN.out] at hcA
        have hb8 : Below w.heap.size w w6 := hb.trans (hbb6.mono hb.size)
        have hS6 := hS.below hbb6 hgs
        have hZ6 := hZ.below hbb6 hgz
        have hgz3 := hb.size
        have hM6 := hbb6.size
        go_upto_region 10 with (fail)
        refine wp_world (fun w' => Blk w' w.heap.size 26 #[.int .i64 nx, .slice A' n c', .int .i64 top, .slice A5 m c5, .slice A6 k c6] ∧ Blk w' (w.heap.size + 1) 26 #[.int .i64 0, .slice none 0 0, .int .i64 0, .slice none 0 0, .slice none 0 0] ∧ OwnX pcells 4 w' (w.heap.size + 2) 39 A' c' ps ∧ OwnX rcells 2 w' w3.heap.size 35 A5 c5 hs ∧ OwnX icells 1 w' w3.heap.size 3 A6 c6 ks ∧ w3.heap.size ≤ w'.heap.size ∧ Below w.heap.size w w')
          ⟨by (apply Blk.as; (case h => (repeat (first | with_reducible exact hS6 | with_reducible apply Blk.drew | with_reducible apply Blk.set4 | with_reducible apply Blk.set_ | (with_reducible apply Blk.far4 (hne := ?side); case side => (first | omega | (simp; omega) | (simp; done))) | (with_reducible apply Blk.far (hp := ?side); case side => (first | omega | (simp; omega) | (simp; done))) | with_reducible apply Blk.alloc))); (case e => (first | with_reducible rfl | (simp; done) | rfl))), by (apply Blk.as; (case h => (repeat (first | with_reducible exact hZ6 | with_reducible apply Blk.drew | with_reducible apply Blk.set4 | with_reducible apply Blk.set_ | (with_reducible apply Blk.far4 (hne := ?side); case side => (first | omega | (simp; omega) | (simp; done))) | (with_reducible apply Blk.far (hp := ?side); case side => (first | omega | (simp; omega) | (simp; done))) | with_reducible apply Blk.alloc))); (case e => (first | with_reducible rfl | (simp; done) | rfl))), (hA6.set_below (by first | (simp; done) | (simp; omega)) _).set_below (by first | (simp; done) | (simp; omega)) _, (hO7.set_below hgs _).set_below hgs _, (hO6.set_below hgs _).set_below hgs _, by simpa using hM6, by (repeat (first | with_reducible exact hb8 | with_reducible refine Below.drew ?_ | (with_reducible refine Below.set4 ?_ ?side _ _ _ _; case side => (first | omega | (simp; omega) | (simp; done))) | (with_reducible refine Below.setCell ?_ ?side _; case side => (first | omega | (simp; omega) | (simp; done))) | (with_reducible refine Below.alloc ?_ ?side _; case side => (first | omega | (simp; omega) | (simp; done)))))⟩ ?_
        clear FS hS hZ hb hO5 hO6 hO7 hA6 hS6 hZ6 hb8 hbb5 hbb6 hgr5 hgr6 hat5 hat6 hb5 hb6 hlt5 HO HB3 HC3 j3 j4 j5 j6 k3 k4 k5 k6
        rintro w7 ⟨hS, hZ, hA7, hB7, hC7, hM7, hb7⟩
        have FS := hS.facts5
        have FZ := hZ.facts5
        have HA7 := Lib.hid hA7
        have HB7 := Lib.hid hB7
        have HC7 := Lib.hid hC7
        clear hA7 hB7 hC7
        go_wp2_with fail
        refine bodyPost_ret (v := .agg #[.int .i64 nx, .slice A' n c', .int .i64 top, .slice A5 m c5, .slice A6 k c6]) ?_ rfl ⟨A', c', A5, c5, A6, c6, w3.heap.size, rfl, hcA, ⟨hc5, hm5⟩, ⟨hc6, hm6⟩, hgz3, by simpa using hM7, HAL.out, ?_, ?_, ?_, ?_⟩
        · simp [results, Try.results23, go_sem, FZ] <;> rfl
        · have hO := HA7.out.mono (show w.heap.size ≤ w.heap.size + 2 by omega)
          have hO := HA7.out
          refine OwnX.mono (base := w.heap.size + 2) ?_ (by omega)
          (repeat (first | with_reducible exact hO | (with_reducible refine OwnX.set_below ?_ ?side _; case side => (first | (simp; done) | (simp; omega)))))
        · have hO := HB7.out
          (repeat (first | with_reducible exact hO | (with_reducible refine OwnX.set_below ?_ ?side _; case side => (first | omega | (simp; omega)))))
        · have hO := HC7.out
          (repeat (first | with_reducible exact hO | (with_reducible refine OwnX.set_below ?_ ?side _; case side => (first | omega | (simp; omega)))))
        · (repeat (first | with_reducible exact hb7 | with_reducible refine Below.drew ?_ | (with_reducible refine Below.set4 ?_ ?side _ _ _ _; case side => (first | omega | (simp; omega) | (simp; done))) | (with_reducible refine Below.setCell ?_ ?side _; case side => (first | omega | (simp; omega) | (simp; done))) | (with_reducible refine Below.alloc ?_ ?side _; case side => (first | omega | (simp; omega) | (simp; done)))))
end Go.Proofs.Ytpmgoediglmofaa
