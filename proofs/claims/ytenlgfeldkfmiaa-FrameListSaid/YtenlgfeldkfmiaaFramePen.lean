/- The contract of a pen's put. -/
import Derived.Test.YtenlgfeldkfmiaaFrameCheck
import Derived.Test.YtenlgfeldkfmiaaEncodeWalk
import Derived.Deep.RegionLaw
namespace Go.Proofs.Ytenlgfeldkfmiaa
open Go.ChangeShapes Go.WideShapes Go.ChangeAt Go.RowKit
set_option linter.unusedVariables false

theorem step_appBG {P : Program} {w : World} {ops : Array Oper} {o : Oper} {a : Act} {K : Act → World → Prop} {Q : Exit → Act → World → Prop} {E' : Prop} (hg : o.guard = none) (s x : Operand) (t : TypeId)
    (ho : o.op = .call { callee := .builtin .append, args := #[s, x], argTypes := #[t, t] })
    (base : Nat) (E : TypeId) (ht : P.underlying t = some (.slice E)) (hinfo : (P.info? E).map (fun i => (i.zero, i.size, i.bytes)) = some (some (.int .u8 0), 1, 1))
    (A0 : Option Addr) (n0 c0 : Nat) (us : List UInt8) (hs : a.eval s = .slice A0 n0 c0) (hn0 : us.length = n0) (hown : OwnB w base E A0 c0 us)
    (A : Option Addr) (m0 c : Nat) (bs : List UInt8) (hx : a.eval x = .slice A m0 c) (hm0 : bs.length = m0) (hr : RdB w A bs)
    (zs : List UInt8) (hz : us ++ bs = zs) (k : Nat) (hk : n0 + m0 = k) (hbytes : n0 + m0 ≤ 140737488355328) (hbase : base ≤ w.heap.size)
    (h : ∀ A' c' w', OwnB w' base E A' c' zs → k ≤ c' → c' ≤ 9223372036854775807 → Below base w w' → w.grownBy w' (Value.slice A0 n0 c0).ownBlock → K (a.put o.dst (.slice A' k c')) w') :
    if Region.wanted o (yielded ops a.tmps) = true then Oper.wp P o a w K Q else E' := by
  subst hz; subst hn0; subst hm0; subst hk
  refine step_app hg s x t ho base E (.int .u8 0) 1 1 ht hinfo rfl (by decide) (by decide) A0 c0 us.length (u8s us) hs hown A bs.length c (u8s bs) hx hr (u8s_one bs) (by omega) hbase fun A' c' w' h2 h3 h4 h5 h6 => ?_
  rw [← u8s_append, ← List.length_append] at h2
  exact h A' c' w' h2 h3 (by unfold maxLen at h4; omega) h5 h6
theorem wpList_appBG {P : Program} (w : World) {ops : Array Oper} {rest : List Oper} {o : Oper} {a : Act} {Q : Exit → Act → World → Prop} (hgd : o.guard = none) (s x : Operand) (t : TypeId)
    (ho : o.op = .call { callee := .builtin .append, args := #[s, x], argTypes := #[t, t] })
    (base : Nat) (E : TypeId) (ht : P.underlying t = some (.slice E)) (hinfo : (P.info? E).map (fun i => (i.zero, i.size, i.bytes)) = some (some (.int .u8 0), 1, 1))
    (A0 : Option Addr) (n0 c0 : Nat) (us : List UInt8) (hs : a.eval s = .slice A0 n0 c0) (hn0 : us.length = n0) (hown : OwnB w base E A0 c0 us)
    (A : Option Addr) (m0 c : Nat) (bs : List UInt8) (hx : a.eval x = .slice A m0 c) (hm0 : bs.length = m0) (hr : RdB w A bs)
    (zs : List UInt8) (hz : us ++ bs = zs) (k : Nat) (hk : n0 + m0 = k) (hbytes : n0 + m0 ≤ 140737488355328) (hbase : base ≤ w.heap.size)
    (h : ∀ A' c' w', OwnB w' base E A' c' zs → k ≤ c' → c' ≤ 9223372036854775807 → Below base w w' → w.grownBy w' (Value.slice A0 n0 c0).ownBlock → wpList P ops Q rest (a.put o.dst (.slice A' k c')) w') : wpList P ops Q (o :: rest) a w := by
  subst hz; subst hn0; subst hm0; subst hk
  refine wpList_plain hgd fun _ hK => wp_app2 w s x t ho base E (.int .u8 0) 1 1 ht hinfo rfl (by decide) A0 c0 us.length (u8s us) hs hown A bs.length c (u8s bs) hx hr (u8s_one bs) (by omega) (by decide) hbase fun A' c' w' h2 h3 h4 h5 h6 => hK _ _ ?_
  rw [← u8s_append, ← List.length_append] at h2
  exact h A' c' w' h2 h3 (by unfold maxLen at h4; omega) h5 h6

theorem Blk.two1 {w : World} {g : Nat} {t : TypeId} {x : Value} (h : Blk w g t #[x]) : w.cell? ⟨g, 0, none⟩ = some x := by rw [h.cell]; rfl
/-- A block of another type is not the row's. -/
theorem OwnB.apart {w : World} {base : Nat} {E : TypeId} {A : Option Addr} {c n : Nat} {us : List UInt8} (h : OwnB w base E A c us) (hn : us.length = n) {q : Nat} {t : TypeId} {cs : Array Value} (hq : Blk w q t cs) (ht : t ≠ E) : some q ≠ (Value.slice A n c).ownBlock := by
  subst hn
  rcases h.2 with ⟨h2, _⟩ | ⟨g, cap, cur, hv, hg, hh, _⟩
  · rw [h2]; intro hh; cases hh
  · rw [hv]
    intro he
    have : q = g := by injection he
    subst this
    have hq' : w.heap[q]? = some (.cells cs t (0, 0)) := hq
    rw [hh] at hq'
    injection hq' with hq'
    injection hq' with _ h3
    exact ht h3.symm

/-- What stays where a pen writes: all blocks but its own, and of bytes. -/
def Keep (g : Nat) (w w' : World) : Prop := ∀ q t cs, q ≠ g → t ≠ 5 → Blk w q t cs → Blk w' q t cs
theorem Keep.refl (g : Nat) (w : World) : Keep g w w := fun _ _ _ _ _ h => h
theorem Keep.trans {g : Nat} {a b c : World} (h : Keep g a b) (k : Keep g b c) : Keep g a c := fun q t cs h1 h2 hq => k q t cs h1 h2 (h q t cs h1 h2 hq)
theorem Keep.below {g : Nat} {w w' : World} (h : Below w.heap.size w w') : Keep g w w' := fun q t cs _ _ hq => hq.carry h
theorem Keep.set {g : Nat} (w : World) (i : Nat) (u : Value) : Keep g w (w.setCell ⟨g, i, none⟩ u) := fun q t cs h1 _ hq => hq.far (p := ⟨g, i, none⟩) h1 u
theorem Keep.grown {g base : Nat} {w w' : World} {A : Option Addr} {c n : Nat} {us : List UInt8} (h : OwnB w base 5 A c us) (hn : us.length = n) (hg : w.grownBy w' (Value.slice A n c).ownBlock) : Keep g w w' := fun q t cs _ ht hq => hq.grown hg (h.apart hn hq ht)

/-- A pen, and what it has written. -/
def Pen (w : World) (base g : Nat) (us : List UInt8) : Prop := ∃ A n c, us.length = n ∧ Blk w g 67 #[.slice A n c] ∧ OwnB w base 5 A c us
theorem Pen.carry {w w' : World} {base g : Nat} {us : List UInt8} (h : Pen w base g us) (hb : Below w.heap.size w w') : Pen w' base g us := by
  obtain ⟨A, n, c, h1, h2, h3⟩ := h
  exact ⟨A, n, c, h1, h2.carry hb, h3.below hb (Nat.le_refl _)⟩
theorem OwnB.set_far {w : World} {base : Nat} {A : Option Addr} {c : Nat} {us : List UInt8} (h : OwnB w base 5 A c us) {q : Nat} {t : TypeId} {cs : Array Value} (hq : Blk w q t cs) (ht : t ≠ 5) (i : Nat) (u : Value) : OwnB (w.setCell ⟨q, i, none⟩ u) base 5 A c us :=
  own_far h (fun k hk he => h.apart rfl hq ht (by rw [hk]; exact congrArg some he.symm)) u

def ivals (ns : List Nat) : Array Value := (ns.map fun n : Nat => Value.int .i64 (n : Int)).toArray
theorem ivals_at (ns : List Nat) (i : Nat) (h : i < ns.length) : (ivals ns)[i]? = some (.int .i64 ((ns.getD i 0 : Nat) : Int)) := by
  simp [ivals, h, List.getD]
theorem flat_snoc (us : List UInt8) (ns : List Nat) (i : Nat) (h : i < ns.length) : (us ++ (ns.take i).flatMap encB) ++ encB (ns.getD i 0) = us ++ (ns.take (i + 1)).flatMap encB := by
  rw [List.take_succ_eq_append_getElem h, List.flatMap_append, List.append_assoc]
  simp [List.getD, h]
theorem flat_len (ns : List Nat) (h : ∀ n ∈ ns, n ≤ 4611686018427387903) : (ns.flatMap encB).length ≤ 8 * ns.length := by
  induction ns with
  | nil => simp
  | cons n ns ih =>
    have h1 := encB_le8 n (h n List.mem_cons_self)
    have h2 := ih fun x hx => h x (List.mem_cons_of_mem _ hx)
    rw [List.flatMap_cons, List.length_append, List.length_cons]; omega
theorem getD_mem' (ns : List Nat) (i : Nat) (h : i < ns.length) : ns.getD i 0 ∈ ns := by
  simp [List.getD, h]

set_option maxRecDepth 100000 in
set_option maxHeartbeats 2000000 in
theorem put_any (base g q m : Nat) (ns : List Nat) (us : List UInt8) (hns : ∀ n ∈ ns, n ≤ 4611686018427387903) (hm : ns.length = m) (hm3 : m ≤ 3) (hu : us.length ≤ 2000) (w : World) (hbg : base ≤ g) (hP : Pen w base g us) (hQ : Blk w q 3 (ivals ns)) :
    Calls Try.prog 29 #[.pointer (some ⟨g, 0, none⟩), .slice (some ⟨q, 0, none⟩) m m] w fun e w' => e = .returned (.tuple #[]) ∧ Pen w' base g (us ++ ns.flatMap encB) ∧ Keep g w w' ∧ Below base w w' := by
  have hbw : base ≤ w.heap.size := by
    obtain ⟨_, _, _, _, h2, _⟩ := hP
    have := h2.lt; omega
  have HNS := Lib.hid hns
  have HM := Lib.hid hm
  have HP := Lib.hid hP
  have HQ := Lib.hid hQ
  clear hns hm hP hQ
  go_enter Try.func29, Try.ntmps29
  go_wp2_with fail
  go_loopw [10] (fun iv wr => ∃ i : Nat, i ≤ m ∧ iv = .int .i64 (i : Int) ∧ Pen wr base g (us ++ (ns.take i).flatMap encB) ∧ Keep g w wr ∧ Below base w wr) (fun iv _ => m - (intOf iv).toNat)
  case atStart => exact ⟨0, Nat.zero_le _, rfl, by simpa using HP.out, Keep.refl _ _, Below.refl _ _⟩
  case round =>
    obtain ⟨i, hi, rfl, hP, hK, hb⟩ := hrel
    have HK := Lib.hid hK
    have HB := Lib.hid hb
    have HPW := Lib.hid hP
    clear hK hP hb
    by_cases hlt : i < m
    · have hil : i < ns.length := by rw [HM.out]; exact hlt
      have hgq : q ≠ g := by
        intro he
        obtain ⟨A0, n0, c0, _, h2, _⟩ := HP.out
        have h3 : w.heap[q]? = _ := HQ.out
        rw [he, h2] at h3
        injection h3 with h3
        injection h3 with _ h4
        exact absurd h4 (by decide)
      have hQr := HK.out q _ _ hgq (by decide) HQ.out
      have hql := hQr.lt
      have hqf := hQr.frozen i
      have hqc := hQr.cell i
      rw [ivals_at ns i hil] at hqc
      have hxle := HNS.out _ (getD_mem' ns i hil)
      have HZ := Lib.hid (flat_snoc us ns i hil)
      have HUL : Hid ((us ++ (ns.take i).flatMap encB).length ≤ 2024) := by
        show _ ≤ _
        have := flat_len (ns.take i) fun x hx => HNS.out x (List.mem_of_mem_take hx)
        rw [List.length_append]
        rw [List.length_take] at this
        omega
      clear hQr hgq
      generalize ns.getD i 0 = x at *
      have hi0 : (0 : Int) ≤ (i : Int) := by omega
      have him : (i : Int) < (m : Int) := by omega
      go_wp2_with fail
      refine (encode_any x (by omega) _).mono ?_
      rintro e w3 ⟨rfl, hE, hb3⟩
      have hP3 := HPW.out.carry hb3
      have hK3 := HK.out.trans (Keep.below hb3)
      have hB3 := HB.out.trans (hb3.mono (Nat.le_trans hbw HB.out.size))
      have hsz3 : base ≤ w3.heap.size := by
        obtain ⟨A0, n0, c0, _, h2, _⟩ := hP3
        have := h2.lt; omega
      obtain ⟨A, n, c, hn, hG, hO⟩ := hP3
      have HE := Lib.hid hE.rdB
      have HN := Lib.hid hn
      have HG := Lib.hid hG
      have HO := Lib.hid hO
      have HK3 := Lib.hid hK3
      have HB3 := Lib.hid hB3
      have hn2 : n ≤ 2024 := by rw [← hn]; exact HUL.out
      have hx8 := (encB_le8 x hxle).1
      obtain ⟨k, hk⟩ : ∃ k, (encB x).length = k := ⟨_, rfl⟩
      have HKX := Lib.hid hk
      rw [hk] at hx8 ⊢
      have hgl := hG.lt
      have hg0 := hG.cell 0
      have hgf := hG.frozen 0
      replace hg0 : w3.cell? ⟨g, 0, none⟩ = some (.slice A n c) := hg0
      clear hE hn hG hO hK3 hB3 hb3 hk HK HB HPW hql hqf hqc
      go_wp2_with (at_builtin
                   refine wpList_appBG _ rfl (.tmp 23) (.tmp 24) _ rfl base 5 Try.underlying24 u8_info A n c _ rfl HN.out HO.out _ k k (encB x) rfl HKX.out HE.out _ HZ.out (n + k) rfl (by omega) hsz3 ?_
                   intro A6 c6 w6 hO6 hc6 hm6 hb6 hgr6
                   have hG6 := HG.out.grown hgr6 (HO.out.apart HN.out HG.out (by decide))
                   have hK6 := Keep.grown (g := g) HO.out HN.out hgr6
                   have hgl6 := hG6.lt
                   have hgf6 := hG6.frozen 0
                   have hgc6 := hG6.two1)
      go_roundw
      case rel =>
        refine ⟨i + 1, by omega, by first | (go_num; done) | rfl, ⟨A6, n + k, c6, ?_, ?_, ?_⟩, ?_, ?_⟩
        · rw [← HZ.out, List.length_append, HN.out, HKX.out]
        · exact hG6.set_ 0 _
        · exact hO6.set_far hG6 (by decide) _ _
        · exact (HK3.out.trans hK6).trans (Keep.set _ _ _)
        · exact (HB3.out.trans hb6).setCell hbg _
      case measure => first | (simp [intOf]; done) | (simp [intOf]; omega)
    · obtain rfl : i = m := by omega
      go_wp2_with fail
      go_end0
      refine ⟨by first | rfl | simp, ?_, HK.out, HB.out⟩
      have := HPW.out
      rwa [List.take_of_length_le (by rw [HM.out]; exact Nat.le_refl _)] at this
end Go.Proofs.Ytenlgfeldkfmiaa
