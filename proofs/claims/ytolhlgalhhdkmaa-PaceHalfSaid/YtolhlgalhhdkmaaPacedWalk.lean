/- The contract of paced. -/
import Derived.Test.YtolhlgalhhdkmaaPaceGrowsWalk
import Derived.Test.YtolhlgalhhdkmaaSomeWalk
import Derived.Test.YtolhlgalhhdkmaaOwn
import Derived.Deep.RegionLaw
import Derived.Deep.RegionHeld3
namespace Go.Proofs.Ytolhlgalhhdkmaa
open Go.ChangeShapes Go.WideShapes Go.ChangeAt Go.RowKit
set_option linter.unusedVariables false

theorem paceHeard_any (W T F S n s : Int) (h0 : 200 ≤ W) (h1 : W ≤ 100000) (h2 : 0 ≤ T) (h3 : T ≤ 1099511627776) (h4 : 0 ≤ F) (h5 : F ≤ 1099511627776) (h6 : -1 ≤ S) (h7 : S ≤ 1099511627776) (n0 : 0 ≤ n) (n1 : n ≤ 100000) (s0 : 0 ≤ s) (s1 : s ≤ 1099511627776) (hn : n ≤ F) (w : World) :
    Calls Try.prog 20 #[.agg #[.int .i64 W, .int .i64 T, .int .i64 F, .int .i64 S], .int .i64 n, .int .i64 s] w fun e w' => ∃ V, W ≤ V ∧ V ≤ W + n ∧ e = .returned (.tuple #[.agg #[.int .i64 V, .int .i64 T, .int .i64 (F - n), .int .i64 S], .int .i64 0]) ∧ Below w.heap.size w w' := by
  by_cases hs : S < s
  · exact paceHeard_grow W T F S n s h0 h1 h2 h3 h4 h5 h6 h7 n0 n1 s0 s1 hn hs w
  · exact (paceHeard_old W T F S n s h0 (by omega) h2 h3 h4 h5 h6 h7 n0 (by omega) s0 s1 hn (by omega) w).mono fun e w' ⟨he, hb⟩ => ⟨W, by omega, by omega, he, hb⟩

/-- What a loss makes of a pace. -/
def LostTo (W T S s m V U R : Int) : Prop := (s ≤ S ∧ V = W ∧ U = T ∧ R = S) ∨ (S < s ∧ V = max (W / 2) 200 ∧ U = V ∧ R = max m s)
theorem paceLost_any (W T F S n s m : Int) (h0 : 200 ≤ W) (h1 : W ≤ 100000) (h2 : 0 ≤ T) (h3 : T ≤ 1099511627776) (h4 : 0 ≤ F) (h5 : F ≤ 1099511627776) (h6 : -1 ≤ S) (h7 : S ≤ 1099511627776) (n0 : 0 ≤ n) (n1 : n ≤ 100000) (s0 : 0 ≤ s) (s1 : s ≤ 1099511627776) (m0 : 0 ≤ m) (m1 : m ≤ 1099511627776) (hn : n ≤ F) (w : World) :
    Calls Try.prog 23 #[.agg #[.int .i64 W, .int .i64 T, .int .i64 F, .int .i64 S], .int .i64 n, .int .i64 s, .int .i64 m] w fun e w' => ∃ V U R, LostTo W T S s m V U R ∧ e = .returned (.tuple #[.agg #[.int .i64 V, .int .i64 U, .int .i64 (F - n), .int .i64 R], .int .i64 0]) ∧ Below w.heap.size w w' := by
  by_cases hs : S < s
  · exact (paceLost_new W T F S n s m h0 (by omega) h2 h3 h4 h5 h6 h7 n0 (by omega) s0 s1 m0 m1 hn hs _ rfl _ rfl w).mono fun e w' ⟨he, hb⟩ => ⟨_, _, _, .inr ⟨hs, rfl, rfl, rfl⟩, he, hb⟩
  · exact (paceLost_old W T F S n s m h0 (by omega) h2 h3 h4 h5 h6 h7 n0 (by omega) s0 s1 m0 m1 hn (by omega) w).mono fun e w' ⟨he, hb⟩ => ⟨W, T, S, .inl ⟨by omega, rfl, rfl, rfl⟩, he, hb⟩

/-- A parcel on its way: when, how large. -/
def parc (x : Int × Int) : List Value := [.int .i64 0, .int .i64 x.1, .int .i64 x.2, .slice none 0 0]
theorem parc_len (x : Int × Int) : (parc x).length = 4 := rfl
theorem parc_one (xs : List (Int × Int)) : ∀ u ∈ xs.flatMap parc, u.oneCell' = true := by
  intro u hu
  obtain ⟨x, _, hx⟩ := List.mem_flatMap.1 hu
  simp [parc] at hx
  rcases hx with rfl | rfl | rfl | rfl <;> rfl
theorem parc_one1 (x : Int × Int) : ∀ u ∈ parc x, u.oneCell' = true := by
  intro u hu; exact parc_one [x] u (by simpa using hu)
theorem rd_parc (w : World) (t d : Int) : Rd (w.alloc (.cells #[.int .i64 0, .int .i64 t, .int .i64 d, .slice none 0 0] 49)) 4 (some ⟨w.heap.size, 0, none⟩) 1 (parc (t, d)) := Rd.new w _ _ 4 rfl
def sumS (xs : List (Int × Int)) : Int := (xs.map (·.2)).sum
theorem sumS_app (xs ys : List (Int × Int)) : sumS (xs ++ ys) = sumS xs + sumS ys := by simp [sumS]
theorem sumS_one (x : Int × Int) : sumS [x] = x.2 := by simp [sumS]
def WayOk (xs : List (Int × Int)) (now : Int) : Prop := (∀ x ∈ xs, 0 ≤ x.1 ∧ x.1 ≤ now ∧ 0 ≤ x.2 ∧ x.2 < 150) ∧ xs.Pairwise (fun x y => x.1 ≤ y.1)
theorem sumS_nn {xs : List (Int × Int)} {now : Int} (h : WayOk xs now) : 0 ≤ sumS xs := by
  induction xs with
  | nil => simp [sumS]
  | cons x xs ih =>
    have h1 := (h.1 x List.mem_cons_self).2.2.1
    have h2 := ih ⟨fun y hy => h.1 y (List.mem_cons_of_mem _ hy), (List.pairwise_cons.1 h.2).2⟩
    simp [sumS] at h2 ⊢; omega
theorem sumS_le {xs : List (Int × Int)} {now : Int} (h : WayOk xs now) : sumS xs ≤ 150 * xs.length := by
  induction xs with
  | nil => simp [sumS]
  | cons x xs ih =>
    have h1 := (h.1 x List.mem_cons_self).2.2.2
    have h2 := ih ⟨fun y hy => h.1 y (List.mem_cons_of_mem _ hy), (List.pairwise_cons.1 h.2).2⟩
    simp [sumS] at h2 ⊢; omega
theorem WayOk.mono {xs : List (Int × Int)} {m n : Int} (h : WayOk xs m) (hm : m ≤ n) : WayOk xs n := ⟨fun x hx => by have := h.1 x hx; omega, h.2⟩
theorem WayOk.out {xs : List (Int × Int)} {m : Int} (h : WayOk xs m) (i : Nat) : WayOk (xs.take i ++ xs.drop (i + 1)) m := by
  refine ⟨fun x hx => ?_, ?_⟩
  · rcases List.mem_append.1 hx with hx | hx
    · exact h.1 x (List.mem_of_mem_take hx)
    · exact h.1 x (List.mem_of_mem_drop hx)
  · rw [← List.eraseIdx_eq_take_drop_succ]
    exact h.2.sublist (List.eraseIdx_sublist ..)
theorem sumS_out (xs : List (Int × Int)) (i : Nat) (hi : i < xs.length) : sumS (xs.take i ++ xs.drop (i + 1)) = sumS xs - (xs.getD i (0, 0)).2 := by
  have h : xs = xs.take i ++ (xs.getD i (0, 0) :: xs.drop (i + 1)) := by
    have := List.take_append_drop i xs
    rw [List.drop_eq_getElem_cons hi] at this
    rw [show xs.getD i (0, 0) = xs[i] from by simp [List.getD, hi]]
    exact this.symm
  have e : sumS xs = sumS (xs.take i) + ((xs.getD i (0, 0)).2 + sumS (xs.drop (i + 1))) := by
    conv => lhs; rw [h]
    rw [sumS_app]; simp [sumS]
  rw [sumS_app]; omega


theorem own_open {w0 : World} {base : Nat} {e : TypeId} {A : Option Addr} {c : Nat} {xs : List (Int × Int)} (h : w0.ownsRow base e 4 (.slice A xs.length c) xs.length (xs.flatMap parc)) (d : Int × Int) (hn : 0 < xs.length) :
    ∃ g, A = some ⟨g, 0, none⟩ ∧ ∀ k, k < xs.length → w0.cell? ⟨g, k * 4, none⟩ = some (.int .i64 0) ∧ w0.cell? ⟨g, k * 4 + 1, none⟩ = some (.int .i64 (xs.getD k d).1) ∧ w0.cell? ⟨g, k * 4 + 2, none⟩ = some (.int .i64 (xs.getD k d).2) ∧ w0.cell? ⟨g, k * 4 + 3, none⟩ = some (.slice none 0 0) := by
  obtain ⟨g, cap, hv, _, hlt⟩ := h.form hn
  have hA : A = some ⟨g, 0, none⟩ := by injection hv
  subst hA
  refine ⟨g, rfl, fun k hk => ?_⟩
  have hc : ∀ j v, j < 4 → (parc (xs.getD k d))[j]? = some v → w0.cell? ⟨g, k * 4 + j, none⟩ = some v := fun j v hj hv => by
    have := h.cells (g := g) rfl (k * 4 + j) v (by rw [flatMap_get xs parc 4 parc_len d k j hk hj]; exact hv)
    rwa [add_none, Nat.zero_add] at this
  exact ⟨hc 0 _ (by decide) rfl, hc 1 _ (by decide) rfl, hc 2 _ (by decide) rfl, hc 3 _ (by decide) rfl⟩

/-- What paced answers. -/
def PacedOut (w : World) (e : Ending) (w' : World) : Prop := ∃ (W T F S now : Int) (A : Option Addr) (c : Nat) (xs : List (Int × Int)),
  e = .returned (.tuple #[.agg #[.int .i64 W, .int .i64 T, .int .i64 F, .int .i64 S], .slice A xs.length c, .bool true]) ∧ Below w.heap.size w w' ∧
  200 ≤ W ∧ W ≤ 5000 ∧ 0 ≤ T ∧ T ≤ 5000 ∧ F = sumS xs ∧ -1 ≤ S ∧ S ≤ now ∧ 0 ≤ now ∧ now ≤ 90 ∧ WayOk xs now ∧ xs.length ≤ 30 ∧ xs.length ≤ c ∧ c ≤ maxLen ∧ RdX parc 4 w' A xs

theorem parcInfo : (Try.prog.info? 49).map (fun i => (i.zero, i.size, i.bytes)) = some (some (.agg #[.int .i64 0, .int .i64 0, .int .i64 0, .slice none 0 0]), 4, 48) := by kernel_rfl

set_option maxRecDepth 100000 in
set_option maxHeartbeats 2000000 in
theorem paced_any (A : Option Addr) (len cap : Nat) (rs : List RawD) (w : World) (h : IsRaws w A len cap rs) :
    Calls Try.prog 21 #[.slice A len cap] w (PacedOut w) := by
  have hlc := h.2.2.1
  have hcm := h.2.2.2.1
  unfold maxLen at hcm
  go_enter Try.func21, Try.ntmps21
  go_wp2_with fail
  refine (paceBegin_any _).mono ?_
  rintro e w1 ⟨rfl, hb1⟩
  have hs1 : w.heap.size < w1.heap.size := by have := hb1.size; simp at this; omega
  go_wp2_with fail
  refine (some_any A len cap (min len 30) 30 hlc (by omega) (by decide) (by decide) (by omega) _).mono ?_
  rintro e w' ⟨rfl, rfl⟩
  have hF := h.front (min len 30) (by omega)
  generalize rs.take (min len 30) = ts at *
  have hk30 : min len 30 ≤ 30 := by omega
  generalize min len 30 = K at *
  clear h hlc
  have hR0 : Blk w1 w.heap.size 37 #[.int .i64 0, .int .i64 0, .int .i64 0, .int .i64 0] := (Blk.new w _ _).carry hb1
  have hbb : Below w.heap.size w w1 := ((Below.refl _ _).alloc (Nat.le_refl _) _).trans (hb1.mono (by simp))
  go_wp2_with fail
  have hB0 := Blk.new w1 37 #[.int .i64 400, .int .i64 0, .int .i64 0, .int .i64 (-1)]
  go_loopw [6, 7, 8, 24] (fun way nw ok i wr => ∃ (k : Nat) (W T F S now : Int) (A : Option Addr) (c : Nat) (xs : List (Int × Int)),
      k ≤ K ∧ i = .int .i64 k ∧ way = .slice A xs.length c ∧ nw = .int .i64 now ∧ ok = .bool true ∧ 200 ≤ W ∧ W ≤ 400 + 150 * k ∧ 0 ≤ T ∧ T ≤ 400 + 150 * k ∧ F = sumS xs ∧ -1 ≤ S ∧ S ≤ now ∧ 0 ≤ now ∧ now ≤ 3 * k ∧ WayOk xs now ∧ xs.length ≤ k ∧
      wr.ownsRow (w1.heap.size + 1) 49 4 (.slice A xs.length c) xs.length (xs.flatMap parc) ∧ Blk wr w1.heap.size 37 #[.int .i64 W, .int .i64 T, .int .i64 F, .int .i64 S] ∧
      Blk wr w.heap.size 37 #[.int .i64 0, .int .i64 0, .int .i64 0, .int .i64 0] ∧ Below w.heap.size w wr ∧ w1.heap.size < wr.heap.size) (fun _ _ _ i _ => K - (intOf i).toNat)
  case atStart => exact ⟨0, 400, 0, 0, -1, 0, none, 0, [], Nat.zero_le _, rfl, rfl, rfl, rfl, by decide, by decide, by decide, by decide, rfl, by decide, by decide, by decide, by decide, ⟨fun x hx => (List.not_mem_nil hx).elim, List.Pairwise.nil⟩, by simp, World.ownsRow_nil _ _ _ _, hB0, hR0.alloc _, hbb.alloc hbb.size _, by simp⟩
  case round =>
    obtain ⟨k, W, T, F, S, now, A2, c, xs, hk, rfl, rfl, rfl, rfl, hW0, hW1, hT0, hT1, hFs, hS0, hS1, hn0, hn1, hway, hxl, hown, hB, hR, hb, hg1⟩ := hrel
    clear hB0 hR0 hbb hb1
    by_cases hlt : k < K
    · have hRr : IsRaws wr A K cap ts := hF.keep hb
      obtain ⟨b, off, rfl, hcell⟩ := hRr.at_ (by omega)
      obtain ⟨c0, c1, c2, c3⟩ := hcell k hlt
      have hok := hF.2.2.2.2 k hlt
      generalize ts.getD k rawNone = r at *
      obtain ⟨o0, o1, o2, _⟩ := hok
      clear hcell hRr
      have hF0 := sumS_nn hway
      have hF1 := sumS_le hway
      rw [← hFs] at hF0 hF1
      have HFs := Lib.hid hFs
      have HO := Lib.hid hown
      clear hFs hown
      go_upto_region 7 with (fail)
      refine wp_world (fun w' => Blk w' wr.heap.size 27 #[.int .i64 r.kind, .int .i64 r.a, .int .i64 r.b, .string r.text] ∧ w'.ownsRow (w1.heap.size + 1) 49 4 (.slice A2 xs.length c) xs.length (xs.flatMap parc) ∧ Blk w' w1.heap.size 37 #[.int .i64 W, .int .i64 T, .int .i64 F, .int .i64 S] ∧
        Blk w' w.heap.size 37 #[.int .i64 0, .int .i64 0, .int .i64 0, .int .i64 0] ∧ Below w.heap.size w w') ⟨Blk.new _ _ _, HO.out.alloc _, hB.alloc _, hR.alloc _, hb.alloc hb.size _⟩ ?_
      have hgr := hg1
      clear hB hR hb HO c0 c1 c2 c3 
      rintro w2 ⟨hQ, hown, hB, hR, hb⟩
      have HO := Lib.hid hown
      have FQ := hQ.facts4
      have FB := hB.facts4
      have FR := hR.facts4
      have HB := Lib.hid hB
      have HR := Lib.hid hR
      have HQ := Lib.hid hQ
      clear hQ hown hB hR
      go_wp2_with fail
      refine (picked_ex _ _ o2.1 o2.2 (by decide) (by decide) _).mono ?_
      rintro e w' ⟨d, d0, d1, rfl, rfl⟩
      go_wp2_with fail
      refine (picked_ex _ _ o0.1 o0.2 (by decide) (by decide) _).mono ?_
      rintro e w' ⟨q, q0, q1, rfl, rfl⟩
      have hway' := hway.mono (show now ≤ now + d by omega)
      have hsel : ((q == 0) = true ∨ (q == 0) = false ∧ (((xs.length : Nat) : Int) == 0) = true) ∨ ((q == 0) = false ∧ (((xs.length : Nat) : Int) == 0) = false) := by
        cases q == 0 <;> cases ((xs.length : Nat) : Int) == 0 <;> simp
      rcases hsel with hsel | ⟨hq1, hx1⟩
      · rcases hsel with hq1 | ⟨hq1, hx1⟩
        all_goals
          go_wp2_with fail
          refine (picked_ex _ _ o1.1 o1.2 (by decide) (by decide) _).mono ?_
          rintro e w' ⟨a, a0, a1, rfl, rfl⟩
          by_cases ha : a ≤ W - F
          · go_wp2_with fail
            refine (paceSend_yes W T F S a (by omega) (by omega) (by omega) (by omega) (by omega) (by omega) (by omega) (by omega) a0 (by omega) ha _).mono ?_
            rintro e w3 ⟨rfl, hb3⟩
            go_upto_region 12 with (fail)
            refine wp_world (fun w' => Blk w' w3.heap.size 37 #[.int .i64 W, .int .i64 T, .int .i64 (F + a), .int .i64 S] ∧ w'.ownsRow (w1.heap.size + 1) 49 4 (.slice A2 xs.length c) xs.length (xs.flatMap parc) ∧ Blk w' w1.heap.size 37 #[.int .i64 W, .int .i64 T, .int .i64 F, .int .i64 S] ∧
              Blk w' w.heap.size 37 #[.int .i64 0, .int .i64 0, .int .i64 0, .int .i64 0] ∧ Below w.heap.size w w') ⟨Blk.new _ _ _, ?_, (HB.out.carry hb3).alloc _, (HR.out.carry hb3).alloc _, ?_⟩ ?_
            · exact (own_carry HO.out hb3).alloc _
            · exact (hb.trans (hb3.mono hb.size)).alloc (hb.trans (hb3.mono hb.size)).size _
            have hg3 : w2.heap.size ≤ w3.heap.size := hb3.size
            have hgq := own_block_lt HO.out
            clear FQ FB FR HB HR HQ HO hb hb3
            rintro w4 ⟨hN, hown, hB, hR, hb⟩
            have HO := Lib.hid hown
            have FN := hN.facts4
            have FB := hB.facts4
            clear hown
            go_upto_region 14 with (fail)
            have hdd : decide (F + a ≤ W) = true := by simp; omega
            have hfar : (Value.slice A2 xs.length c).ownBlock ≠ some w3.heap.size := fun hg => by have := (hgq _ hg).2; omega
            clear hgq
            go_region_law ((refine step_app (by rfl) _ _ _ (by rfl) (w1.heap.size + 1) 49 _ 4 48 Try.underlying44 parcInfo rfl (by decide) (by decide) _ _ _ (xs.flatMap parc) (by rfl) (by (repeat (first | with_reducible exact HO.out | with_reducible refine World.ownsRow.drew ?_ | (with_reducible refine ownsRow_setCell_below ?_ ?side _; case side => (first | omega | (simp; omega) | (simp; done))) | with_reducible refine World.ownsRow.alloc ?_ _))) _ _ _ (parc (now + d, a)) (by rfl) (by (repeat (first | with_reducible exact rd_parc _ _ _ | with_reducible refine Rd.drew ?_ | (with_reducible refine Rd.farc ?_ ?side _; case side => (first | omega | (simp; omega) | (simp; done))) | with_reducible refine Rd.alloc ?_ _))) (parc_one1 _) (by omega) (by simp; omega) ?_; intro A5 c5 w5 hown5 hcap5 hcm5 hbel5 hgrow5; have hc5 := cell_under hbel5; have hf5 := frozen_under hbel5; have hg5 := fun o => hgrow5.cell_far ⟨w3.heap.size, o, none⟩ (by simp; omega) (Ne.symm hfar)))
            all_goals
              have hsz5 := hbel5.size
              simp at hsz5
              have hway5 : WayOk (xs ++ [(now + d, a)]) (now + d) := by
                refine ⟨fun x hx => ?_, List.pairwise_append.2 ⟨hway'.2, List.pairwise_singleton _ _, fun x hx y hy => ?_⟩⟩
                · rcases List.mem_append.1 hx with hx | hx
                  · exact hway'.1 x hx
                  · obtain rfl := List.mem_singleton.1 hx
                    exact ⟨by show 0 ≤ now + d; omega, by show now + d ≤ now + d; omega, a0, a1⟩
                · obtain rfl := List.mem_singleton.1 hy
                  have := hway'.1 x hx
                  show x.1 ≤ now + d; omega
              have hsum : F + a = sumS (xs ++ [(now + d, a)]) := by rw [sumS_app, sumS_one, HFs.out]
              have hlen : (xs ++ [(now + d, a)]).length = xs.length + 1 := by simp
              rw [show List.flatMap parc xs ++ parc (now + d, a) = (xs ++ [(now + d, a)]).flatMap parc from by simp] at hown5
              rw [← hlen] at hown5
              have HO5 := Lib.hid hown5
              have HS := Lib.hid hsum
              have HL := Lib.hid hlen
              have HW := Lib.hid hway5
              clear hown5 hsum hlen hway5 hc5 hf5 hg5
              generalize xs ++ [(now + d, a)] = ys at *
              go_wp2_with fail
              go_roundw
              case rel =>
                refine ⟨k + 1, W, T, F + a, S, now + d, A5, c5, ys, by omega, by go_num, by rw [HL.out], rfl, rfl, hW0, by omega, hT0, by omega, HS.out, hS0, by omega, by omega, by omega, HW.out, by rw [HL.out]; omega, ?_, ?_, ?_, ?_, ?_⟩
                · (repeat (first | with_reducible exact HO5.out | with_reducible refine World.ownsRow.drew ?_ | (with_reducible refine ownsRow_setCell_below ?_ ?side _; case side => (first | omega | (simp; omega) | (simp; done))) | with_reducible refine World.ownsRow.alloc ?_ _))
                · (apply Blk.as; (case h => (repeat (first | with_reducible exact hB | with_reducible apply Blk.drew | with_reducible apply Blk.set4 | with_reducible apply Blk.set_ | (with_reducible apply Blk.far4 (hne := ?side); case side => (first | omega | (simp; omega) | (simp; done))) | (with_reducible apply Blk.far (hp := ?side); case side => (first | omega | (simp; omega) | (simp; done))) | with_reducible apply Blk.alloc | (with_reducible apply Blk.below (hb := hbel5) (hg := ?side); case side => (first | omega | (simp; omega) | (simp; done)))))); (case e => (first | with_reducible rfl | (simp; done) | rfl)))
                · (apply Blk.as; (case h => (repeat (first | with_reducible exact hR | with_reducible apply Blk.drew | with_reducible apply Blk.set4 | with_reducible apply Blk.set_ | (with_reducible apply Blk.far4 (hne := ?side); case side => (first | omega | (simp; omega) | (simp; done))) | (with_reducible apply Blk.far (hp := ?side); case side => (first | omega | (simp; omega) | (simp; done))) | with_reducible apply Blk.alloc | (with_reducible apply Blk.below (hb := hbel5) (hg := ?side); case side => (first | omega | (simp; omega) | (simp; done)))))); (case e => (first | with_reducible rfl | (simp; done) | rfl)))
                · (repeat (first | with_reducible exact hb | with_reducible refine Below.drew ?_ | (with_reducible refine Below.set4 ?_ ?side _ _ _ _; case side => (first | omega | (simp; omega) | (simp; done))) | (with_reducible refine Below.setCell ?_ ?side _; case side => (first | omega | (simp; omega) | (simp; done))) | (with_reducible refine Below.alloc ?_ ?side _; case side => (first | omega | (simp; omega) | (simp; done))) | (with_reducible refine Below.trans ?_ (Below.mono hbel5 ?side); case side => (first | omega | (simp; omega) | (simp; done)))))
                · simp; omega
              case measure => simp [intOf]; omega
          · go_wp2_with fail
            refine (paceSend_no W T F S a (by omega) (by omega) (by omega) (by omega) (by omega) (by omega) (by omega) (by omega) a0 (by omega) (by omega) _).mono ?_
            rintro e w3 ⟨rfl, hb3⟩
            have hdd : decide (F + a ≤ W) = false := by simp; omega
            have hB3 := HB.out.carry hb3
            have hR3 := HR.out.carry hb3
            have hO3 := own_carry HO.out hb3
            have hbz := hb.trans (hb3.mono hb.size)
            have HO3 := Lib.hid hO3
            have FB3 := hB3.facts4
            clear FB FR FQ HB HR HQ HO hO3 hb hb3
            go_wp2_with fail
            go_roundw
            case rel =>
              refine ⟨k + 1, W, T, F, S, now + d, A2, c, xs, by omega, by go_num, rfl, rfl, rfl, hW0, by omega, hT0, by omega, HFs.out, hS0, by omega, by omega, by omega, hway', by omega, ?_, ?_, ?_, ?_, ?_⟩
              · exact HO3.out.alloc _
              · exact hB3.alloc _
              · exact hR3.alloc _
              · exact hbz.alloc hbz.size _
              · simp; omega
            case measure => simp [intOf]; omega
      · have hx0 : 0 < xs.length := by
          rcases Nat.eq_zero_or_pos xs.length with h0 | h0
          · rw [h0] at hx1; simp at hx1
          · exact h0
        go_wp2_with fail
        refine (picked_ex _ _ o1.1 o1.2 (by omega) (by omega) _).mono ?_
        rintro e w' ⟨y, y0, y1, rfl, rfl⟩
        obtain ⟨i, rfl⟩ := Int.eq_ofNat_of_zero_le y0
        have hi : i < xs.length := by omega
        obtain ⟨g, hA, hcell⟩ := own_open HO.out (0, 0) hx0
        subst hA
        obtain ⟨p0, p1, p2, p3⟩ := hcell i hi
        have hxo := hway'.1 (xs.getD i (0, 0)) (by simp [List.getD, hi])
        have hso := sumS_out xs i hi
        have hwo := hway'.out i
        obtain ⟨x1, x2, hx⟩ : ∃ x1 x2, xs.getD i (0, 0) = (x1, x2) := ⟨_, _, rfl⟩
        rw [hx] at p1 p2 hxo hso
        obtain ⟨xa, xb, xc, xd⟩ : 0 ≤ x1 ∧ x1 ≤ now + d ∧ 0 ≤ x2 ∧ x2 < 150 := hxo
        have hsx : sumS (xs.take i ++ xs.drop (i + 1)) = F - x2 := by rw [hso, HFs.out]
        have hyl : (xs.take i ++ xs.drop (i + 1)).length = xs.length - 1 := by simp; omega
        have hF2 := sumS_nn hwo
        rw [hsx] at hF2
        have HSX := Lib.hid hsx
        have HYL := Lib.hid hyl
        have HWO := Lib.hid hwo
        clear hx hso hcell hsx hyl hwo
        have hcx := own_cap HO.out
        go_upto_region 17 with (fail)
        refine wp_world (fun w' => Blk w' w2.heap.size 49 #[.int .i64 0, .int .i64 x1, .int .i64 x2, .slice none 0 0] ∧ w'.ownsRow (w1.heap.size + 1) 49 4 (.slice (some ⟨g, 0, none⟩) xs.length c) xs.length (xs.flatMap parc) ∧ Blk w' w1.heap.size 37 #[.int .i64 W, .int .i64 T, .int .i64 F, .int .i64 S] ∧
          Blk w' w.heap.size 37 #[.int .i64 0, .int .i64 0, .int .i64 0, .int .i64 0] ∧ Below w.heap.size w w' ∧ w2.heap.size < w'.heap.size) ⟨Blk.new _ _ _, HO.out.alloc _, HB.out.alloc _, HR.out.alloc _, hb.alloc hb.size _, by simp⟩ ?_
        have hgb := (own_block_lt HO.out g rfl).1
        have hgl := (own_block_lt HO.out g rfl).2
        have hw12 : w1.heap.size < w2.heap.size := HB.out.lt
        clear HB HR HQ HO FB FR FQ hb p0 p1 p2 p3
        rintro w3 ⟨hX, hown, hB, hR, hb, hg3⟩
        have HO := Lib.hid hown
        have HB := Lib.hid hB
        have HR := Lib.hid hR
        have HX := Lib.hid hX
        clear hown hB hR hX
        have hi0 : (0 : Int) ≤ (i : Int) := by omega
        have hi3 : (0 : Int) ≤ (i : Int) + 1 := by omega
        have hi1 : (i : Int) ≤ (c : Int) := by omega
        have hi2 : ((i : Int) + 1) ≤ ((xs.length : Nat) : Int) := by omega
        have hiw : IntKind.i64.wrap ((i : Int) + 1) = (i : Int) + 1 := IntWalk.i64_in _ (by omega)
        have hci : c ≠ i + 1 ∨ c = i + 1 := by omega
        have hfr := Rd.front (Rd.of_own HO.out) (Nat.le_of_lt hi)
        have hbk := Rd.cut (Rd.of_own HO.out) (k := i + 1) (cap := c) hi hcx.1
        rw [flatMap_take xs parc 4 parc_len i] at hfr
        rw [flatMap_drop xs parc 4 parc_len (i + 1)] at hbk
        have HFR := Lib.hid hfr
        have HBK := Lib.hid hbk
        clear hfr hbk
        have hg3' : g < w3.heap.size := by omega
        have hrb : ∃ o m, Rd w3 4 (some ⟨g, o, none⟩) m ((xs.drop (i + 1)).flatMap parc) ∧ i + m = (xs.take i ++ xs.drop (i + 1)).length ∧ ((c ≠ i + 1 ∧ o = (i + 1) * 4 ∧ m = xs.length - (i + 1)) ∨ (c = i + 1 ∧ o = 0 ∧ m = 0)) := by
          have hl := HYL.out
          rcases hci with hci | hci
          · refine ⟨(i + 1) * 4, xs.length - (i + 1), ?_, by omega, .inl ⟨hci, rfl, rfl⟩⟩
            have := HBK.out
            rw [if_neg hci] at this
            simpa [add_none] using this
          · refine ⟨0, 0, ?_, by omega, .inr ⟨hci, rfl, rfl⟩⟩
            have := HBK.out
            rw [if_pos hci, show xs.length - (i + 1) = 0 from by omega] at this
            exact this
        clear HBK hci
        obtain ⟨o, m, hbk, hym, hoo⟩ := hrb
        have HBK2 := Lib.hid hbk
        have HYM := Lib.hid hym
        clear hbk hym
        have hi5 : (i : Int) ≤ (i : Int) + 1 := by omega
        have hmi : i + m ≤ 30 := by have h1 := HYM.out; have h2 := HYL.out; omega
        rcases hoo with ⟨hci, hoo, hmo⟩ | ⟨hci, hoo, hmo⟩
        all_goals
          subst hoo
          subst hmo
          try subst hci
          go_region_law ((first
            | (refine step_app (by rfl) _ _ _ (by rfl) w3.heap.size 49 _ 4 48 Try.underlying44 parcInfo rfl (by decide) (by decide) (some ⟨w3.heap.size, 0, none⟩) 0 0 [] (by rfl) (World.ownsRow_made w3 #[] 0 (Nat.le_refl _) (by decide) (by simp)) _ i _ ((xs.take i).flatMap parc) (by rfl) (Rd.alloc HFR.out _) (parc_one _) (by omega) (by simp) ?_; intro A5 c5 w5 hown5 hcap5 hcm5 hbel5 hgrow5; have hown5' : w5.ownsRow w3.heap.size 49 4 (.slice A5 i c5) i ((xs.take i).flatMap parc) := (own_zero hown5); have hrd5 := Rd.kept (Rd.drew (Rd.alloc HBK2.out _)) hbel5 (blk_lt_some hg3'); have HOW5 := Lib.hid hown5'; have HRD5 := Lib.hid hrd5; have hsz5 := hbel5.size; clear hown5 hown5' hrd5)
            | (refine step_app (by rfl) _ _ _ (by rfl) w3.heap.size 49 _ 4 48 Try.underlying44 parcInfo rfl (by decide) (by decide) A5 c5 i _ (by rfl) HOW5.out _ _ _ ((xs.drop (i + 1)).flatMap parc) (by rfl) HRD5.out (parc_one _) (by omega) (by simp at hsz5; omega) ?_; intro A6 c6 w6 hown6 hcap6 hcm6 hbel6 hgrow6)))
          have hsz6 := hbel6.size
          simp at hsz5
          have hym := HYM.out
          have hown6' : w6.ownsRow (w1.heap.size + 1) 49 4 (.slice A6 (xs.take i ++ xs.drop (i + 1)).length c6) (xs.take i ++ xs.drop (i + 1)).length ((xs.take i ++ xs.drop (i + 1)).flatMap parc) := by
            rw [List.flatMap_append, ← hym]; exact own_mono hown6 (by omega)
          have HOW6 := Lib.hid hown6'
          clear hown6 hown6' hym HFR HOW5 HRD5 HBK2
          generalize xs.take i ++ xs.drop (i + 1) = ys at *
          go_upto_region 18 with (fail)
          refine wp_world (fun w' => Blk w' w2.heap.size 49 #[.int .i64 0, .int .i64 x1, .int .i64 x2, .slice none 0 0] ∧ w'.ownsRow (w1.heap.size + 1) 49 4 (.slice A6 ys.length c6) ys.length (ys.flatMap parc) ∧ Blk w' w1.heap.size 37 #[.int .i64 W, .int .i64 T, .int .i64 F, .int .i64 S] ∧
            Blk w' w.heap.size 37 #[.int .i64 0, .int .i64 0, .int .i64 0, .int .i64 0] ∧ Below w.heap.size w w') ⟨?_, HOW6.out, ?_, ?_, ?_⟩ ?_
          · have hX := HX.out
            (apply Blk.as; (case h => (repeat (first | with_reducible exact hX | with_reducible apply Blk.drew | with_reducible apply Blk.set4 | with_reducible apply Blk.set_ | (with_reducible apply Blk.far4 (hne := ?side); case side => (first | omega | (simp; omega) | (simp; done))) | (with_reducible apply Blk.far (hp := ?side); case side => (first | omega | (simp; omega) | (simp; done))) | with_reducible apply Blk.alloc | (with_reducible apply Blk.below (hb := hbel6) (hg := ?side); case side => (first | omega | (simp; omega) | (simp; done))) | (with_reducible apply Blk.below (hb := hbel5) (hg := ?side); case side => (first | omega | (simp; omega) | (simp; done)))))); (case e => (first | with_reducible rfl | (simp; done) | rfl)))
          · have hB := HB.out
            (apply Blk.as; (case h => (repeat (first | with_reducible exact hB | with_reducible apply Blk.drew | with_reducible apply Blk.set4 | with_reducible apply Blk.set_ | (with_reducible apply Blk.far4 (hne := ?side); case side => (first | omega | (simp; omega) | (simp; done))) | (with_reducible apply Blk.far (hp := ?side); case side => (first | omega | (simp; omega) | (simp; done))) | with_reducible apply Blk.alloc | (with_reducible apply Blk.below (hb := hbel6) (hg := ?side); case side => (first | omega | (simp; omega) | (simp; done))) | (with_reducible apply Blk.below (hb := hbel5) (hg := ?side); case side => (first | omega | (simp; omega) | (simp; done)))))); (case e => (first | with_reducible rfl | (simp; done) | rfl)))
          · have hR := HR.out
            (apply Blk.as; (case h => (repeat (first | with_reducible exact hR | with_reducible apply Blk.drew | with_reducible apply Blk.set4 | with_reducible apply Blk.set_ | (with_reducible apply Blk.far4 (hne := ?side); case side => (first | omega | (simp; omega) | (simp; done))) | (with_reducible apply Blk.far (hp := ?side); case side => (first | omega | (simp; omega) | (simp; done))) | with_reducible apply Blk.alloc | (with_reducible apply Blk.below (hb := hbel6) (hg := ?side); case side => (first | omega | (simp; omega) | (simp; done))) | (with_reducible apply Blk.below (hb := hbel5) (hg := ?side); case side => (first | omega | (simp; omega) | (simp; done)))))); (case e => (first | with_reducible rfl | (simp; done) | rfl)))
          · (repeat (first | with_reducible exact hb | with_reducible refine Below.drew ?_ | (with_reducible refine Below.set4 ?_ ?side _ _ _ _; case side => (first | omega | (simp; omega) | (simp; done))) | (with_reducible refine Below.setCell ?_ ?side _; case side => (first | omega | (simp; omega) | (simp; done))) | (with_reducible refine Below.alloc ?_ ?side _; case side => (first | omega | (simp; omega) | (simp; done))) | (with_reducible refine Below.trans ?_ (Below.mono hbel6 ?side); case side => (first | omega | (simp; omega) | (simp; done))) | (with_reducible refine Below.trans ?_ (Below.mono hbel5 ?side); case side => (first | omega | (simp; omega) | (simp; done)))))
          clear HX HB HR HOW6 hb hbel6 hbel5 hgrow5 hgrow6 hsz5 hsz6
          rintro w7 ⟨hX, hown, hB, hR, hb⟩
          have FX := hX.facts4
          have FB := hB.facts4
          have HO := Lib.hid hown
          have HB := Lib.hid hB
          have HR := Lib.hid hR
          clear hown hB hR
          go_wp2_with fail
          refine (paceHeard_any W T F S x2 x1 (by omega) (by omega) (by omega) (by omega) (by omega) (by omega) (by omega) (by omega) xc (by omega) xa (by omega) (by omega) _).mono ?_
          rintro e w8 ⟨V, v0, v1, rfl, hb8⟩
          have hB8 := (HB.out.carry hb8).alloc (.cells #[.int .i64 V, .int .i64 T, .int .i64 (F - x2), .int .i64 S] 37)
          have hR8 := (HR.out.carry hb8).alloc (.cells #[.int .i64 V, .int .i64 T, .int .i64 (F - x2), .int .i64 S] 37)
          have hX8 := (hX.carry hb8).alloc (.cells #[.int .i64 V, .int .i64 T, .int .i64 (F - x2), .int .i64 S] 37)
          have hO8 := (own_carry HO.out hb8).alloc (.cells #[.int .i64 V, .int .i64 T, .int .i64 (F - x2), .int .i64 S] 37)
          have hbz := (hb.trans (hb8.mono hb.size)).alloc (hb.trans (hb8.mono hb.size)).size (.cells #[.int .i64 V, .int .i64 T, .int .i64 (F - x2), .int .i64 S] 37)
          have hY8 := Blk.new w8 37 #[.int .i64 V, .int .i64 T, .int .i64 (F - x2), .int .i64 S]
          have hl8 : w1.heap.size < w8.heap.size := (HB.out.carry hb8).lt
          have hl9 : w7.heap.size ≤ w8.heap.size := hb8.size
          have hol : ∀ k, (Value.slice A6 ys.length c6).ownBlock = some k → k ≠ w8.heap.size := fun k hk => by have := (own_block_lt HO.out k hk).2; omega
          have HOL := Lib.hid hol
          clear FX FB HO HB HR hX hb hb8 hol
          go_upto_region 19 with (fail)
          refine wp_world (fun w' => Blk w' w8.heap.size 37 #[.int .i64 V, .int .i64 T, .int .i64 (F - x2), .int .i64 S] ∧ Blk w' w2.heap.size 49 #[.int .i64 0, .int .i64 x1, .int .i64 x2, .slice none 0 0] ∧ w'.ownsRow (w1.heap.size + 1) 49 4 (.slice A6 ys.length c6) ys.length (ys.flatMap parc) ∧ Blk w' w1.heap.size 37 #[.int .i64 W, .int .i64 T, .int .i64 F, .int .i64 S] ∧
            Blk w' w.heap.size 37 #[.int .i64 0, .int .i64 0, .int .i64 0, .int .i64 0] ∧ Below w.heap.size w w') ⟨hY8, hX8, hO8, hB8, hR8, hbz⟩ ?_
          clear hY8 hX8 hO8 hB8 hR8 hbz
          rintro w9 ⟨hY, hX, hown, hB, hR, hb⟩
          have FX := hX.facts4
          have FB := hB.facts4
          have FY := hY.facts4
          have HO := Lib.hid hown
          have HB := Lib.hid hB
          have HR := Lib.hid hR
          have HY := Lib.hid hY
          clear hX hown hB hR hY
          have hql : (q == 1) = true ∨ (q == 1) = false := by cases q == 1 <;> simp
          rcases hql with hq2 | hq2
          · go_wp2_with fail
            refine (paceLost_any W T F S x2 x1 (now + d) (by omega) (by omega) (by omega) (by omega) (by omega) (by omega) (by omega) (by omega) xc (by omega) xa (by omega) (by omega) (by omega) (by omega) _).mono ?_
            rintro e w10 ⟨V2, U2, R2, hlt2, rfl, hb10⟩
            have hlb : 200 ≤ V2 ∧ V2 ≤ W ∧ 0 ≤ U2 ∧ U2 ≤ 400 + 150 * (k : Int) ∧ -1 ≤ R2 ∧ R2 ≤ now + d := by
              rcases hlt2 with ⟨_, h1, h2, h3⟩ | ⟨_, h1, h2, h3⟩
              · omega
              · omega
            clear hlt2
            have hB10 := HB.out.carry hb10
            have hR10 := HR.out.carry hb10
            have hO10 := own_carry HO.out hb10
            have hY10 := HY.out.carry hb10
            have hbz := hb.trans (hb10.mono hb.size)
            clear FX FB FY HO HB HR HY hb hb10
            have FB := hB10.facts4
            have FY := hY10.facts4
            have HO := Lib.hid hO10
            clear hO10
            go_upto_region 22 with (fail)
            refine wp_world (fun w' => Blk w' w8.heap.size 37 #[.int .i64 V2, .int .i64 U2, .int .i64 (F - x2), .int .i64 R2] ∧ w'.ownsRow (w1.heap.size + 1) 49 4 (.slice A6 ys.length c6) ys.length (ys.flatMap parc) ∧ Blk w' w1.heap.size 37 #[.int .i64 W, .int .i64 T, .int .i64 F, .int .i64 S] ∧
              Blk w' w.heap.size 37 #[.int .i64 0, .int .i64 0, .int .i64 0, .int .i64 0] ∧ Below w.heap.size w w') ⟨?_, ?_, ?_, ?_, ?_⟩ ?_
            · (apply Blk.as; (case h => (repeat (first | with_reducible exact hY10 | with_reducible apply Blk.drew | with_reducible apply Blk.set4 | with_reducible apply Blk.set_ | (with_reducible apply Blk.far4 (hne := ?side); case side => (first | omega | (simp; omega) | (simp; done))) | (with_reducible apply Blk.far (hp := ?side); case side => (first | omega | (simp; omega) | (simp; done))) | with_reducible apply Blk.alloc))); (case e => (first | with_reducible rfl | (simp; done) | rfl)))
            · exact own_far4 HO.out HOL.out _ _ _ _
            · (apply Blk.as; (case h => (repeat (first | with_reducible exact hB10 | with_reducible apply Blk.drew | with_reducible apply Blk.set4 | with_reducible apply Blk.set_ | (with_reducible apply Blk.far4 (hne := ?side); case side => (first | omega | (simp; omega) | (simp; done))) | (with_reducible apply Blk.far (hp := ?side); case side => (first | omega | (simp; omega) | (simp; done))) | with_reducible apply Blk.alloc))); (case e => (first | with_reducible rfl | (simp; done) | rfl)))
            · (apply Blk.as; (case h => (repeat (first | with_reducible exact hR10 | with_reducible apply Blk.drew | with_reducible apply Blk.set4 | with_reducible apply Blk.set_ | (with_reducible apply Blk.far4 (hne := ?side); case side => (first | omega | (simp; omega) | (simp; done))) | (with_reducible apply Blk.far (hp := ?side); case side => (first | omega | (simp; omega) | (simp; done))) | with_reducible apply Blk.alloc))); (case e => (first | with_reducible rfl | (simp; done) | rfl)))
            · (repeat (first | with_reducible exact hbz | with_reducible refine Below.drew ?_ | (with_reducible refine Below.set4 ?_ ?side _ _ _ _; case side => (first | omega | (simp; omega) | (simp; done))) | (with_reducible refine Below.setCell ?_ ?side _; case side => (first | omega | (simp; omega) | (simp; done))) | (with_reducible refine Below.alloc ?_ ?side _; case side => (first | omega | (simp; omega) | (simp; done)))))
            clear FB FY HO hB10 hR10 hY10 hbz
            rintro w11 ⟨hY, hown, hB, hR, hb⟩
            have FB := hB.facts4
            have FY := hY.facts4
            have HO := Lib.hid hown
            clear hown
            go_wp2_with fail
            go_roundw
            case rel =>
              refine ⟨k + 1, V2, U2, F - x2, R2, now + d, A6, c6, ys, by omega, by go_num, by simp [← HYM.out], rfl, rfl, by omega, by omega, by omega, by omega, HSX.out.symm, by omega, by omega, by omega, by omega, HWO.out, by rw [HYL.out]; omega, ?_, ?_, ?_, ?_, ?_⟩
              · (repeat (first | with_reducible exact HO.out | with_reducible refine World.ownsRow.drew ?_ | (with_reducible refine ownsRow_setCell_below ?_ ?side _; case side => (first | omega | (simp; omega) | (simp; done))) | with_reducible refine World.ownsRow.alloc ?_ _))
              · exact hB.set4 _ _ _ _
              · exact hR.far4 (by omega) _ _ _ _
              · exact Below.set4 hb (by omega) _ _ _ _
              · simp; omega
            case measure => simp [intOf]; omega
          · go_wp2_with fail
            go_roundw
            case rel =>
              refine ⟨k + 1, V, T, F - x2, S, now + d, A6, c6, ys, by omega, by go_num, by simp [← HYM.out], rfl, rfl, by omega, by omega, by omega, by omega, HSX.out.symm, by omega, by omega, by omega, by omega, HWO.out, by rw [HYL.out]; omega, ?_, ?_, ?_, ?_, ?_⟩
              · (repeat (first | with_reducible exact HO.out | with_reducible refine World.ownsRow.drew ?_ | (with_reducible refine ownsRow_setCell_below ?_ ?side _; case side => (first | omega | (simp; omega) | (simp; done))) | with_reducible refine World.ownsRow.alloc ?_ _))
              · exact HB.out.set4 _ _ _ _
              · exact HR.out.far4 (by omega) _ _ _ _
              · exact Below.set4 hb (by omega) _ _ _ _
              · simp; omega
            case measure => simp [intOf]; omega
    · obtain rfl : k = K := by omega
      have FB := hB.facts4
      have FR := hR.facts4
      have HO := Lib.hid hown
      have hcc := own_cap hown
      clear hown
      have HFs := Lib.hid hFs
      clear hFs
      go_wp2_with fail
      refine bodyPost_ret (v := .tuple #[.agg #[.int .i64 W, .int .i64 T, .int .i64 F, .int .i64 S], .slice A2 xs.length c, .bool true]) ?_ rfl ?_
      · simp [results, Try.results21, go_sem, FR]
      · refine ⟨W, T, F, S, now, A2, c, xs, rfl, ?_, hW0, by omega, hT0, by omega, HFs.out, hS0, hS1, hn0, by omega, hway, by omega, hcc.1, hcc.2, ?_⟩
        · exact Below.set4 hb (Nat.le_refl _) _ _ _ _
        · exact Rd.of_own (base := w1.heap.size + 1) (e := 49) (c := c) (by (repeat (first | with_reducible exact HO.out | with_reducible refine World.ownsRow.drew ?_ | (with_reducible refine ownsRow_setCell_below ?_ ?side _; case side => (first | omega | (simp; omega) | (simp; done))) | with_reducible refine World.ownsRow.alloc ?_ _)))
end Go.Proofs.Ytolhlgalhhdkmaa
