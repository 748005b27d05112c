/- The contract of tableOf. -/
import Derived.Test.YtdmonacekjcedaaFieldOfWalk
import Derived.Test.YtdmonacekjcedaaInsertWalk
import Derived.Test.YtdmonacekjcedaaInsertBigWalk
import Derived.Test.YtdmonacekjcedaaSomeWalk
import Derived.Deep.RegionLaw
import Derived.Deep.QuietTactic
import Derived.BigQuiet
namespace Go.Proofs.Ytdmonacekjcedaa
open Go.ChangeShapes Go.WideShapes Go.ChangeAt Go.RowKit
set_option linter.unusedVariables false

/-- What a table holds of all that was put in: the last ones, as many as fit. -/
def TabOk (r : Nat) (al R : List Fld) : Prop := (∃ j, j ≤ al.length ∧ R = al.drop j ∧ (0 < j → r < tsz (al.drop (j - 1)))) ∧ tsz R ≤ r ∧ (∀ f ∈ al, FOk f) ∧ (al ≠ [] → R ≠ [])
theorem TabOk.nil (r : Nat) : TabOk r [] [] := ⟨⟨0, by simp, rfl, fun h => absurd h (by omega)⟩, by simp [tsz], by simp, fun h => absurd rfl h⟩
theorem TabOk.mem {r : Nat} {al R : List Fld} (h : TabOk r al R) : ∀ f ∈ R, FOk f := fun f hf => by
  obtain ⟨⟨j, _, rfl, _⟩, _, h3, _⟩ := h
  exact h3 f (List.mem_of_mem_drop hf)
theorem TabOk.len {r : Nat} {al R : List Fld} (h : TabOk r al R) : R.length ≤ al.length := by
  obtain ⟨⟨j, _, rfl, _⟩, _⟩ := h
  simp
theorem TabOk.put {r : Nat} {al R : List Fld} (h : TabOk r al R) (f : Fld) (hf : FOk f) (hp : fsz f ≤ r) : TabOk r (al ++ [f]) (fitR R (r - fsz f) ++ [f]) := by
  obtain ⟨⟨j, hj, rfl, hm⟩, h2, h3, _⟩ := h
  obtain ⟨k, hk, he, hn⟩ := fitR_end (al.drop j) (r - fsz f)
  rw [List.length_drop] at hk
  have hfit := fitR_fits (al.drop j) (r - fsz f)
  refine ⟨⟨j + k, by simp; omega, ?_, fun h0 => ?_⟩, ?_, ?_, fun _ => by simp⟩
  · rw [he, List.drop_drop, List.drop_append_of_le_length (by omega)]
  · rw [List.drop_append_of_le_length (by omega), tsz_append]
    simp only [tsz, Nat.add_zero]
    rcases Nat.eq_zero_or_pos k with h1 | h1
    · subst h1
      have := hm (by omega)
      rw [Nat.add_zero]; omega
    · have := hn h1
      rw [List.drop_drop, show j + (k - 1) = j + k - 1 from by omega] at this
      omega
  · rw [tsz_append]; simp only [tsz, Nat.add_zero]; omega
  · intro g hg
    rcases List.mem_append.1 hg with hg | hg
    · exact h3 g hg
    · rw [List.mem_singleton.1 hg]; exact hf

theorem fcells_one1 (x : Fld) : ∀ u ∈ fcells x, u.oneCell' = true := by
  intro u hu; exact fcells_one [x] u (by simpa using hu)
theorem rd_fld (w : World) (x y : ByteArray) : Rd (w.alloc (.cells #[.string x, .string y] 39)) 2 (some ⟨w.heap.size, 0, none⟩) 1 (fcells (x, y)) := Rd.new w _ _ 2 rfl

theorem own_grown {w0 w' : World} {base : Nat} {e : TypeId} {size n : Nat} {v : Value} {xs : List Value} {row : Option Nat} (h : w0.ownsRow base e size v n xs) (hb : w0.grownBy w' row) (hne : ∀ k, v.ownBlock = some k → some k ≠ row) : w'.ownsRow base e size v n xs := by
  refine ⟨h.1, ?_⟩
  rcases h.2 with h2 | ⟨g, cap, cur, hv, hg, hh, r⟩
  · exact .inl h2
  · exact .inr ⟨g, cap, cur, hv, hg, (hb.block g (Array.getElem?_eq_some_iff.1 hh).1 (hne g (by rw [hv]; rfl))).trans hh, r⟩

/-- What tableOf answers. -/
def TableOut (w : World) (e : Ending) (w' : World) : Prop := ∃ (r : Nat) (A : Option Addr) (n c : Nat) (B : Option Addr) (m d : Nat) (al R : List Fld),
  e = .returned (.tuple #[.agg #[.int .i64 (r : Int), .int .i64 (m : Int), .slice A n c], .slice B m d, .bool true]) ∧ Below w.heap.size w w' ∧
  40 ≤ r ∧ r ≤ 160 ∧ R.length = n ∧ n ≤ c ∧ c ≤ 9223372036854775807 ∧ al.length = m ∧ m ≤ d ∧ d ≤ 9223372036854775807 ∧ m ≤ 12 ∧ TabOk r al R ∧ RdX fcells 2 w' A R ∧ RdX fcells 2 w' B al

set_option maxRecDepth 100000 in
set_option maxHeartbeats 2000000 in
theorem tableOf_any (room : Int) (A : Option Addr) (len cap : Nat) (rs : List RawD) (w : World) (hr0 : -9223372036854775808 ≤ room) (hr1 : room ≤ 9223372036854775807) (h : IsRaws w A len cap rs) :
    Calls Try.prog 7 #[.int .i64 room, .slice A len cap] w (TableOut w) := by
  have hlc := h.2.2.1
  have hcm := h.2.2.2.1
  unfold maxLen at hcm
  go_enter Try.func7, Try.ntmps7
  go_wp2_with fail
  refine (picked_ex _ _ hr0 hr1 (by decide) (by decide) _).mono ?_
  rintro e w' ⟨y, y0, y1, rfl, rfl⟩
  obtain ⟨r, hr⟩ : ∃ r : Nat, 40 + y = (r : Int) := ⟨(40 + y).toNat, by omega⟩
  go_wp2_with fail
  refine (some_any A len cap (min len 12) 12 hlc (by omega) (by decide) (by decide) (by omega) _).mono ?_
  rintro e w' ⟨rfl, rfl⟩
  have hF := h.front (min len 12) (by omega)
  generalize rs.take (min len 12) = ts at *
  have hk12 : min len 12 ≤ 12 := by omega
  generalize min len 12 = K at *
  clear h hlc
  have hr160 : r ≤ 160 := by omega
  have hr40 : 40 ≤ r := by omega
  go_wp2_with fail
  go_loopw [8, 9, 22] (fun al_ ok i wr => ∃ (k n c m d : Nat) (A B : Option Addr) (al R : List Fld),
      k ≤ K ∧ i = .int .i64 k ∧ al_ = .slice B m d ∧ ok = .bool true ∧ R.length = n ∧ n ≤ c ∧ c ≤ 9223372036854775807 ∧ al.length = m ∧ m ≤ k ∧ TabOk r al R ∧ OwnX fcells 2 wr (w.heap.size + 2) 39 A c R ∧ OwnX fcells 2 wr (w.heap.size + 2) 39 B d al ∧
      Blk wr (w.heap.size + 1) 25 #[.int .i64 (r : Int), .int .i64 (m : Int), .slice A n c] ∧ Blk wr w.heap.size 25 #[.int .i64 0, .int .i64 0, .slice none 0 0] ∧ Below w.heap.size w wr ∧ w.heap.size + 1 < wr.heap.size) (fun _ _ i _ => K - (intOf i).toNat)
  case atStart => exact ⟨0, 0, 0, 0, 0, none, none, [], [], Nat.zero_le _, rfl, rfl, rfl, rfl, Nat.le_refl _, by decide, rfl, Nat.le_refl _, TabOk.nil _, OwnX.nil _ _ _, OwnX.nil _ _ _, by rw [← hr]; exact Blk.new1 _ _ _ _, (Blk.new _ _ _).alloc _, ((Below.refl _ _).alloc (Nat.le_refl _) _).alloc (by simp) _, by simp⟩
  case round =>
    obtain ⟨k, n, c, m, d, A2, B, al, R, hk, rfl, rfl, rfl, hn, hnc, hcc, hm, hmk, htab, hrd, hown, hT, hZ, hb, hg⟩ := hrel
    have HN := Lib.hid hn
    have HM := Lib.hid hm
    have HTAB := Lib.hid htab
    have HRD := Lib.hid hrd
    have HO := Lib.hid hown
    have HT := Lib.hid hT
    have HZ := Lib.hid hZ
    have hnm : n ≤ m := by rw [← hn, ← hm]; exact htab.len
    clear hn hm htab hrd hown hT hZ hr y0 y1
    by_cases hlt : k < K
    · have hRr : IsRaws wr A K cap ts := hF.keep hb
      obtain ⟨b, off, rfl, hcell⟩ := hRr.at_ (by omega)
      obtain ⟨c0, c1, c2, c3⟩ := hcell k hlt
      have hok := hF.2.2.2.2 k hlt
      generalize ts.getD k rawNone = q at *
      clear hcell hRr
      go_upto_region 7 with (fail)
      refine wp_world (fun w' => Blk w' wr.heap.size 35 #[.int .i64 q.kind, .int .i64 q.a, .int .i64 q.b, .string q.text] ∧ OwnX fcells 2 w' (w.heap.size + 2) 39 A2 c R ∧ OwnX fcells 2 w' (w.heap.size + 2) 39 B d al ∧ Blk w' (w.heap.size + 1) 25 #[.int .i64 (r : Int), .int .i64 (m : Int), .slice A2 n c] ∧
        Blk w' w.heap.size 25 #[.int .i64 0, .int .i64 0, .slice none 0 0] ∧ Below w.heap.size w w') ⟨Blk.new _ _ _, HRD.out.alloc _, HO.out.alloc _, HT.out.alloc _, HZ.out.alloc _, hb.alloc hb.size _⟩ ?_
      clear hb HRD HO HT HZ c0 c1 c2 c3
      rintro w2 ⟨hQ, hrd, hown, hT, hZ, hb⟩
      have FQ := hQ.facts4
      have HRD := Lib.hid hrd
      have HO := Lib.hid hown
      have HT := Lib.hid hT
      have HZ := Lib.hid hZ
      clear hrd hown hT hZ
      obtain ⟨⟨x, y⟩, hF2⟩ : ∃ F, fieldF q = F := ⟨_, rfl⟩
      have hfo : FOk (x, y) := by rw [← hF2]; exact (fieldF_ok q).1
      go_wp2_with fail
      refine (fieldOf_any q hok (x, y) hF2 _).mono ?_
      rintro e w3 ⟨rfl, hb3⟩
      go_upto_region 8 with (fail)
      refine wp_world (fun w' => Blk w' w3.heap.size 39 #[.string x, .string y] ∧ OwnX fcells 2 w' (w.heap.size + 2) 39 A2 c R ∧ OwnX fcells 2 w' (w.heap.size + 2) 39 B d al ∧ Blk w' (w.heap.size + 1) 25 #[.int .i64 (r : Int), .int .i64 (m : Int), .slice A2 n c] ∧
        Blk w' w.heap.size 25 #[.int .i64 0, .int .i64 0, .slice none 0 0] ∧ Below w.heap.size w w') ⟨Blk.new _ _ _, (HRD.out.carry hb3).alloc _, (HO.out.carry hb3).alloc _, (HT.out.carry hb3).alloc _, (HZ.out.carry hb3).alloc _, (hb.trans (hb3.mono hb.size)).alloc (hb.trans (hb3.mono hb.size)).size _⟩ ?_
      have hg3 : w.heap.size + 1 < w3.heap.size := Nat.lt_of_lt_of_le HT.out.lt hb3.size
      clear hQ FQ hb HRD HO HT HZ hb3 hF2
      rintro w4 ⟨hX, hrd, hown, hT, hZ, hb⟩
      have FX := hX.two
      have FT := hT.facts3
      have HX := Lib.hid hX
      have HRD := Lib.hid hrd
      have HO := Lib.hid hown
      have HT := Lib.hid hT
      have HZ := Lib.hid hZ
      have HFO := Lib.hid hfo
      obtain ⟨g0, g1, g2⟩ := hfo
      have g0' : 1 ≤ x.size := g0
      have g1' : x.size ≤ 20 := g1
      have g2' : y.size ≤ 40 := g2
      have hg34 : w3.heap.size < w4.heap.size := hX.lt
      clear hX hrd hown hT hZ g0 g1 g2
      obtain ⟨p, hp⟩ : ∃ p, x.size + y.size + 32 = p := ⟨_, rfl⟩
      have HP := Lib.hid hp
      have hpb : p ≤ 92 := by omega
      clear hp
      by_cases hpr : p ≤ r
      · go_wp2_with fail
        refine (tInsert_own r m A2 n c R HN.out hnc hcc hr160 (by omega) (by omega) HTAB.out.mem HTAB.out.2.1 x y g0' g1' g2' p HP.out hpr _ _ rfl rfl _ HRD.out.rd).mono ?_
        rintro e w5 ⟨A5, c5, rfl, hc5, hc5', ho5, hb5⟩
        have htab5 := HTAB.out.put (x, y) HFO.out (by show x.size + y.size + 32 ≤ r; rw [HP.out]; exact hpr)
        rw [show fsz (x, y) = p from HP.out] at htab5
        generalize fitR R (r - p) ++ [(x, y)] = R5 at *
        obtain ⟨n5, hn5⟩ : ∃ n5, R5.length = n5 := ⟨_, rfl⟩
        rw [hn5] at hc5 ⊢
        have HN5 := Lib.hid hn5
        have HT5 := Lib.hid htab5
        clear hn5 htab5
        go_upto_region 10 with (fail)
        refine wp_world (fun w' => Blk w' w5.heap.size 25 #[.int .i64 (r : Int), .int .i64 ((m : Int) + 1), .slice A5 n5 c5] ∧ Blk w' w3.heap.size 39 #[.string x, .string y] ∧ OwnX fcells 2 w' w4.heap.size 39 A5 c5 R5 ∧ OwnX fcells 2 w' (w.heap.size + 2) 39 B d al ∧ Blk w' (w.heap.size + 1) 25 #[.int .i64 (r : Int), .int .i64 (m : Int), .slice A2 n c] ∧
          Blk w' w.heap.size 25 #[.int .i64 0, .int .i64 0, .slice none 0 0] ∧ Below w.heap.size w w') ⟨Blk.new _ _ _, (HX.out.carry hb5).alloc _, ho5.alloc _, (HO.out.carry hb5).alloc _, (HT.out.carry hb5).alloc _, (HZ.out.carry hb5).alloc _, (hb.trans (hb5.mono hb.size)).alloc (hb.trans (hb5.mono hb.size)).size _⟩ ?_
        have hg5 : w3.heap.size < w5.heap.size := Nat.lt_of_lt_of_le HX.out.lt hb5.size
        have hgq : ∀ k, (Value.slice B m d).ownBlock = some k → w.heap.size + 2 ≤ k ∧ k < w4.heap.size := HO.out.lt
        have hg4 : w4.heap.size ≤ w5.heap.size := hb5.size
        clear FX FT HX ho5 HRD HO HT HZ hb hb5
        rintro w6 ⟨hN, hX, ho5, hown, hT, hZ, hb⟩
        have FN := hN.facts3
        have FX := hX.two
        have FT := hT.facts3
        have hown' : w6.ownsRow (w.heap.size + 2) 39 2 (.slice B m d) m (al.flatMap fcells) := by rw [← HM.out]; exact hown
        have ho5' : w6.ownsRow w4.heap.size 39 2 (.slice A5 n5 c5) n5 (R5.flatMap fcells) := by rw [← HN5.out]; exact ho5
        have HO := Lib.hid hown'
        have HO5 := Lib.hid ho5'
        have HT := Lib.hid hT
        have HZ := Lib.hid hZ
        have hfar : (Value.slice B m d).ownBlock ≠ some w5.heap.size := fun hg => by have := (hgq _ hg).2; omega
        have hne5 : ∀ k, (Value.slice A5 n5 c5).ownBlock = some k → some k ≠ (Value.slice B m d).ownBlock := fun k hk hkk => by
          have h1 := (own_block_lt ho5' k hk).1
          have h2 := (hgq k hkk.symm).2
          omega
        clear hown ho5 hown' ho5' hT hZ hgq
        have hm12 : m ≤ 12 := by omega
        have hg6 : w5.heap.size < w6.heap.size := hN.lt
        have HN1 := Lib.hid hN
        have HX := Lib.hid hX
        have HB := Lib.hid hb
        clear hN hX hb
        go_wp2_with fail
        go_cut [8] from 36 to 57 (fun s8 wx => ∃ (A7 : Option Addr) (c7 : Nat), s8 = .slice A7 (m + 1) c7 ∧ wx.ownsRow (w.heap.size + 2) 39 2 (.slice A7 (m + 1) c7) (m + 1) ((al ++ [(x, y)]).flatMap fcells) ∧ wx.ownsRow w4.heap.size 39 2 (.slice A5 n5 c5) n5 (R5.flatMap fcells) ∧ Blk wx (w.heap.size + 1) 25 #[.int .i64 (r : Int), .int .i64 ((m : Int) + 1), .slice A5 n5 c5] ∧
            Blk wx w.heap.size 25 #[.int .i64 0, .int .i64 0, .slice none 0 0] ∧ Below w.heap.size w wx ∧ w.heap.size + 1 < wx.heap.size)
        case first =>
          go_region_law ((refine step_app (by rfl) _ _ _ (by rfl) (w.heap.size + 2) 39 _ 2 32 Try.underlying23 fldInfo rfl (by decide) (by decide) B d m (al.flatMap fcells) (by rfl) (by (repeat (first | with_reducible exact HO.out | with_reducible refine World.ownsRow.drew ?_ | (with_reducible refine ownsRow_setCell_below ?_ ?side _; case side => (first | omega | (simp; omega) | (simp; done))) | with_reducible refine World.ownsRow.alloc ?_ _))) _ _ _ (fcells (x, y)) (by rfl) (by (repeat (first | with_reducible exact rd_fld _ _ _ | with_reducible refine Rd.drew ?_ | (with_reducible refine Rd.farc ?_ ?side _; case side => (first | omega | (simp; omega) | (simp; done))) | with_reducible refine Rd.alloc ?_ _))) (fcells_one1 _) (by omega) (by simp; omega) ?_; intro A7 c7 w7 hown7 hcap7 hcm7 hbel7 hgrow7; have hc7 := cell_under hbel7; have hf7 := frozen_under hbel7; have hg7 := fun o => hgrow7.cell_far ⟨w5.heap.size, o, none⟩ (by simp; omega) (Ne.symm hfar); have ho7 : w7.ownsRow w4.heap.size 39 2 (.slice A5 n5 c5) n5 (R5.flatMap fcells) := own_grown (by (repeat (first | with_reducible exact HO5.out | with_reducible refine World.ownsRow.drew ?_ | (with_reducible refine ownsRow_setCell_below ?_ ?side _; case side => (first | omega | (simp; omega) | (simp; done))) | with_reducible refine World.ownsRow.alloc ?_ _))) hgrow7 hne5; have HO7 := Lib.hid ho7; clear ho7))
          all_goals
            go_wp2_with fail
            go_meet
            have hsz7 := hbel7.size
            simp at hsz7
            rw [show List.flatMap fcells al ++ fcells (x, y) = (al ++ [(x, y)]).flatMap fcells from by simp] at hown7
            refine ⟨A7, c7, rfl, ?_, ?_, ?_, ?_, ?_, ?_⟩
            · (repeat (first | with_reducible exact hown7 | with_reducible refine World.ownsRow.drew ?_ | (with_reducible refine ownsRow_setCell_below ?_ ?side _; case side => (first | omega | (simp; omega) | (simp; done))) | with_reducible refine World.ownsRow.alloc ?_ _))
            · have ho7 := HO7.out
              (repeat (first | with_reducible exact ho7 | with_reducible refine World.ownsRow.drew ?_ | (with_reducible refine ownsRow_setCell_below ?_ ?side _; case side => (first | omega | (simp; omega) | (simp; done))) | with_reducible refine World.ownsRow.alloc ?_ _))
            · have hT := HT.out
              (apply Blk.as; (case h => (repeat (first | with_reducible exact hT | with_reducible apply Blk.drew | with_reducible apply Blk.set4 | with_reducible apply Blk.set_ | (with_reducible apply Blk.far4 (hne := ?side); case side => (first | omega | (simp; omega) | (simp; done))) | (with_reducible apply Blk.far (hp := ?side); case side => (first | omega | (simp; omega) | (simp; done))) | with_reducible apply Blk.alloc | (with_reducible apply Blk.below (hb := hbel7) (hg := ?side); case side => (first | omega | (simp; omega) | (simp; done)))))); (case e => (first | with_reducible rfl | (simp; done) | rfl)))
            · have hZ := HZ.out
              (apply Blk.as; (case h => (repeat (first | with_reducible exact hZ | with_reducible apply Blk.drew | with_reducible apply Blk.set4 | with_reducible apply Blk.set_ | (with_reducible apply Blk.far4 (hne := ?side); case side => (first | omega | (simp; omega) | (simp; done))) | (with_reducible apply Blk.far (hp := ?side); case side => (first | omega | (simp; omega) | (simp; done))) | with_reducible apply Blk.alloc | (with_reducible apply Blk.below (hb := hbel7) (hg := ?side); case side => (first | omega | (simp; omega) | (simp; done)))))); (case e => (first | with_reducible rfl | (simp; done) | rfl)))
            · have hb := HB.out
              have hbs := hb.size
              (repeat (first | with_reducible exact hb | with_reducible refine Below.drew ?_ | (with_reducible refine Below.set4 ?_ ?side _ _ _ _; case side => (first | omega | (simp; omega) | (simp; done))) | (with_reducible refine Below.setCell ?_ ?side _; case side => (first | omega | (simp; omega) | (simp; done))) | (with_reducible refine Below.alloc ?_ ?side _; case side => (first | omega | (simp; omega) | (simp; done))) | (with_reducible refine Below.trans ?_ (Below.mono hbel7 ?side); case side => (first | omega | (simp; omega) | (simp; done)))))
            · simp; omega
        case rest =>
          obtain ⟨A7, c7, rfl, hown7, ho7, hT, hZ, hb, hg8⟩ := hcut
          have hlen : (al ++ [(x, y)]).length = m + 1 := by rw [List.length_append, HM.out]; rfl
          have HL := Lib.hid hlen
          have HO7 := Lib.hid hown7
          have HO8 := Lib.hid ho7
          clear hown7 hlen ho7 FN FX FT HT HZ HB HX HN1 HO HO5
          generalize al ++ [(x, y)] = ys at *
          go_wp2_with fail
          go_quiet (fail)
          go_wp2_with fail
          go_roundw
          case rel =>
            refine ⟨k + 1, n5, c5, m + 1, c7, A5, A7, ys, R5, by omega, by go_num, rfl, by simp, HN5.out, hc5, hc5', HL.out, by omega, HT5.out, ?_, ?_, hT, hZ, ⟨hb.os, hb.tape, hb.output, hb.size, hb.block⟩, hg8⟩
            · show World.ownsRow _ _ _ _ _ _ _
              rw [HN5.out]; exact own_mono HO8.out (by omega)
            · show World.ownsRow _ _ _ _ _ _ _
              rw [HL.out]; exact HO7.out
          case measure => simp [intOf]; omega
      · go_wp2_with fail
        refine (tInsert_big r m A2 n c R HN.out hnc hcc hr160 (by omega) (by omega) HTAB.out.mem HTAB.out.2.1 x y g0' g1' g2' p HP.out (by omega) _ HRD.out.rd).mono ?_
        rintro e w5 ⟨rfl, hb5⟩
        go_upto_region 11 with (fail)
        refine wp_world (fun w' => Blk w' w3.heap.size 39 #[.string x, .string y] ∧ OwnX fcells 2 w' (w.heap.size + 2) 39 A2 c R ∧ OwnX fcells 2 w' (w.heap.size + 2) 39 B d al ∧ Blk w' (w.heap.size + 1) 25 #[.int .i64 (r : Int), .int .i64 (m : Int), .slice A2 n c] ∧
          Blk w' w.heap.size 25 #[.int .i64 0, .int .i64 0, .slice none 0 0] ∧ Below w.heap.size w w') ⟨(HX.out.carry hb5).alloc _, (HRD.out.carry hb5).alloc _, (HO.out.carry hb5).alloc _, (HT.out.carry hb5).alloc _, (HZ.out.carry hb5).alloc _, (hb.trans (hb5.mono hb.size)).alloc (hb.trans (hb5.mono hb.size)).size _⟩ ?_
        clear FX FT HX HRD HO HT HZ hb hb5
        rintro w6 ⟨hX, hrd, hown, hT, hZ, hb⟩
        have HRD := Lib.hid hrd
        have HO := Lib.hid hown
        clear hrd hown
        have hfacts : ∀ w', Below w6.heap.size w6 w' → w'.cell? ⟨w3.heap.size, 0, none⟩ = some (.string x) ∧ w'.cell? ⟨w3.heap.size, 1, none⟩ = some (.string y) ∧ w'.cell? ⟨w.heap.size + 1, 0, none⟩ = some (.int .i64 (r : Int)) := fun w' hw' => ⟨(hX.carry hw').two.1, (hX.carry hw').two.2.1, (hT.carry hw').facts3.2.1⟩
        have HFA := Lib.hid hfacts
        clear hfacts
        have hrp : decide (r < p) = true := decide_eq_true (by omega)
        refine wp_region_quiet (C := fun w' => Below (w6).heap.size (w6) w') (by kernel_rfl) (by kernel_rfl) (Below.refl _ _).drew ?_
        repeat (
          with_reducible refine wpQuiet_step ?_
          intro K hK
          go_simp
          first
            | (refine hK _ ?_; clear hK K)
            | (apply Exists.intro
               refine ⟨fun w' hw' => ?_, hK _ ?_⟩
               first
                 | (go_at_call 20; exact (tSize_any x y p HP.out (by omega) w').mono (fun e w'' ⟨he, hb⟩ => ⟨he, hw'.trans (hb.mono hw'.size)⟩))
                 | (have FF := HFA.out w' hw'; go_simp; done)
                 | (have FF := HFA.out w' hw'; go_simp; exact rfl)
               clear hK K))
        refine wpQuiet_nil ?_
        intro wq hwq
        have hT := hT.carry hwq
        have hZ := hZ.carry hwq
        have hbq := hb.trans (hwq.mono hb.size)
        have HRq := Lib.hid (HRD.out.carry hwq)
        have HOq := Lib.hid (HO.out.carry hwq)
        clear hX hb hwq HRD HO HFA
        go_wp2_with fail
        go_roundw
        case rel => exact ⟨k + 1, n, c, m, d, A2, B, al, R, by omega, by go_num, rfl, by simp, HN.out, hnc, hcc, HM.out, by omega, HTAB.out, HRq.out, HOq.out, hT, hZ, hbq, hT.lt⟩
        case measure => simp [intOf]; omega
    · obtain rfl : k = K := by omega
      have FT := HT.out.facts3
      have FZ := HZ.out.facts3
      have hcd := own_cap HO.out
      rw [HM.out] at hcd
      go_wp2_with fail
      refine bodyPost_ret (v := .tuple #[.agg #[.int .i64 (r : Int), .int .i64 (m : Int), .slice A2 n c], .slice B m d, .bool true]) ?_ rfl ?_
      · simp [results, Try.results7, go_sem, FZ]
      · refine ⟨r, A2, n, c, B, m, d, al, R, rfl, ?_, hr40, hr160, HN.out, hnc, hcc, HM.out, hcd.1, hcd.2, by omega, HTAB.out, ?_, ?_⟩
        · (repeat (first | with_reducible exact hb | with_reducible refine Below.drew ?_ | (with_reducible refine Below.set4 ?_ ?side _ _ _ _; case side => (first | omega | (simp; omega) | (simp; done))) | (with_reducible refine Below.setCell ?_ ?side _; case side => (first | omega | (simp; omega) | (simp; done))) | (with_reducible refine Below.alloc ?_ ?side _; case side => (first | omega | (simp; omega) | (simp; done)))))
        · exact (((HRD.out.set_below (by simp) _).set_below (by simp) _).set_below (by simp) _).rd
        · exact (((HO.out.set_below (by simp) _).set_below (by simp) _).set_below (by simp) _).rd
end Go.Proofs.Ytdmonacekjcedaa
