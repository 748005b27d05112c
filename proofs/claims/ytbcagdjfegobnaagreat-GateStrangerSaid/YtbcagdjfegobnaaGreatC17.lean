/- Texts of the proof, laid together: FramePen FrameEnc. -/
import Derived.Test.YtbcagdjfegobnaaGreatC15
import Derived.Test.YtbcagdjfegobnaaGreatC16
import Derived.Deep.RegionLaw
/- The contract of a pen's put. -/
namespace Go.Proofs.YtbcagdjfegobnaaGreat
open Go.ChangeShapes Go.WideShapes Go.ChangeAt Go.RowKit
set_option linter.unusedVariables false

theorem step_appBG {P : Program} {w : World} {ops : Array Oper} {o : Oper} {a : Act} {K : Act → World → Prop} {Q : Exit → Act → World → Prop} {E' : Prop} (hg : o.guard = none) (s x : Operand) (t : TypeId)
    (ho : o.op = .call { callee := .builtin .append, args := #[s, x], argTypes := #[t, t] })
    (base : Nat) (E : TypeId) (ht : P.underlying t = some (.slice E)) (hinfo : (P.info? E).map (fun i => (i.zero, i.size, i.bytes)) = some (some (.int .u8 0), 1, 1))
    (A0 : Option Addr) (n0 c0 : Nat) (us : List UInt8) (hs : a.eval s = .slice A0 n0 c0) (hn0 : us.length = n0) (hown : OwnB w base E A0 c0 us)
    (A : Option Addr) (m0 c : Nat) (bs : List UInt8) (hx : a.eval x = .slice A m0 c) (hm0 : bs.length = m0) (hr : RdB w A bs)
    (zs : List UInt8) (hz : us ++ bs = zs) (k : Nat) (hk : n0 + m0 = k) (hbytes : n0 + m0 ≤ 140737488355328) (hbase : base ≤ w.heap.size)
    (h : ∀ A' c' w', OwnB w' base E A' c' zs → k ≤ c' → c' ≤ 9223372036854775807 → Below base w w' → w.grownBy w' (Value.slice A0 n0 c0).ownBlock → K (a.put o.dst (.slice A' k c')) w') :
    if Region.wanted o (yielded ops a.tmps) = true then Oper.wp P o a w K Q else E' := by
  subst hz; subst hn0; subst hm0; subst hk
  refine step_app hg s x t ho base E (.int .u8 0) 1 1 ht hinfo rfl (by decide) (by decide) A0 c0 us.length (u8s us) hs hown A bs.length c (u8s bs) hx hr (u8s_one bs) (by omega) hbase fun A' c' w' h2 h3 h4 h5 h6 => ?_
  rw [← u8s_append, ← List.length_append] at h2
  exact h A' c' w' h2 h3 (by unfold maxLen at h4; omega) h5 h6
theorem wpList_appBG {P : Program} (w : World) {ops : Array Oper} {rest : List Oper} {o : Oper} {a : Act} {Q : Exit → Act → World → Prop} (hgd : o.guard = none) (s x : Operand) (t : TypeId)
    (ho : o.op = .call { callee := .builtin .append, args := #[s, x], argTypes := #[t, t] })
    (base : Nat) (E : TypeId) (ht : P.underlying t = some (.slice E)) (hinfo : (P.info? E).map (fun i => (i.zero, i.size, i.bytes)) = some (some (.int .u8 0), 1, 1))
    (A0 : Option Addr) (n0 c0 : Nat) (us : List UInt8) (hs : a.eval s = .slice A0 n0 c0) (hn0 : us.length = n0) (hown : OwnB w base E A0 c0 us)
    (A : Option Addr) (m0 c : Nat) (bs : List UInt8) (hx : a.eval x = .slice A m0 c) (hm0 : bs.length = m0) (hr : RdB w A bs)
    (zs : List UInt8) (hz : us ++ bs = zs) (k : Nat) (hk : n0 + m0 = k) (hbytes : n0 + m0 ≤ 140737488355328) (hbase : base ≤ w.heap.size)
    (h : ∀ A' c' w', OwnB w' base E A' c' zs → k ≤ c' → c' ≤ 9223372036854775807 → Below base w w' → w.grownBy w' (Value.slice A0 n0 c0).ownBlock → wpList P ops Q rest (a.put o.dst (.slice A' k c')) w') : wpList P ops Q (o :: rest) a w := by
  subst hz; subst hn0; subst hm0; subst hk
  refine wpList_plain hgd fun _ hK => wp_app2 w s x t ho base E (.int .u8 0) 1 1 ht hinfo rfl (by decide) A0 c0 us.length (u8s us) hs hown A bs.length c (u8s bs) hx hr (u8s_one bs) (by omega) (by decide) hbase fun A' c' w' h2 h3 h4 h5 h6 => hK _ _ ?_
  rw [← u8s_append, ← List.length_append] at h2
  exact h A' c' w' h2 h3 (by unfold maxLen at h4; omega) h5 h6

theorem Blk.two1 {w : World} {g : Nat} {t : TypeId} {x : Value} (h : Blk w g t #[x]) : w.cell? ⟨g, 0, none⟩ = some x := by rw [h.cell]; rfl
/-- A block of another type is not the row's. -/
theorem OwnB.apart {w : World} {base : Nat} {E : TypeId} {A : Option Addr} {c n : Nat} {us : List UInt8} (h : OwnB w base E A c us) (hn : us.length = n) {q : Nat} {t : TypeId} {cs : Array Value} (hq : Blk w q t cs) (ht : t ≠ E) : some q ≠ (Value.slice A n c).ownBlock := by
  subst hn
  rcases h.2 with ⟨h2, _⟩ | ⟨g, cap, cur, hv, hg, hh, _⟩
  · rw [h2]; intro hh; cases hh
  · rw [hv]
    intro he
    have : q = g := by injection he
    subst this
    have hq' : w.heap[q]? = some (.cells cs t (0, 0)) := hq
    rw [hh] at hq'
    injection hq' with hq'
    injection hq' with _ h3
    exact ht h3.symm

/-- What stays where a pen writes: all blocks but its own, and of bytes. -/
def Keep (g : Nat) (w w' : World) : Prop := ∀ q t cs, q ≠ g → t ≠ 5 → Blk w q t cs → Blk w' q t cs
theorem Keep.refl (g : Nat) (w : World) : Keep g w w := fun _ _ _ _ _ h => h
theorem Keep.trans {g : Nat} {a b c : World} (h : Keep g a b) (k : Keep g b c) : Keep g a c := fun q t cs h1 h2 hq => k q t cs h1 h2 (h q t cs h1 h2 hq)
theorem Keep.below {g : Nat} {w w' : World} (h : Below w.heap.size w w') : Keep g w w' := fun q t cs _ _ hq => hq.carry h
theorem Keep.set {g : Nat} (w : World) (i : Nat) (u : Value) : Keep g w (w.setCell ⟨g, i, none⟩ u) := fun q t cs h1 _ hq => hq.far (p := ⟨g, i, none⟩) h1 u
theorem Keep.grown {g base : Nat} {w w' : World} {A : Option Addr} {c n : Nat} {us : List UInt8} (h : OwnB w base 5 A c us) (hn : us.length = n) (hg : w.grownBy w' (Value.slice A n c).ownBlock) : Keep g w w' := fun q t cs _ ht hq => hq.grown hg (h.apart hn hq ht)

/-- A pen, and what it has written. -/
def Pen (w : World) (base g : Nat) (us : List UInt8) : Prop := ∃ A n c, us.length = n ∧ Blk w g 180 #[.slice A n c] ∧ OwnB w base 5 A c us
theorem Pen.carry {w w' : World} {base g : Nat} {us : List UInt8} (h : Pen w base g us) (hb : Below w.heap.size w w') : Pen w' base g us := by
  obtain ⟨A, n, c, h1, h2, h3⟩ := h
  exact ⟨A, n, c, h1, h2.carry hb, h3.below hb (Nat.le_refl _)⟩
theorem OwnB.set_far {w : World} {base : Nat} {A : Option Addr} {c : Nat} {us : List UInt8} (h : OwnB w base 5 A c us) {q : Nat} {t : TypeId} {cs : Array Value} (hq : Blk w q t cs) (ht : t ≠ 5) (i : Nat) (u : Value) : OwnB (w.setCell ⟨q, i, none⟩ u) base 5 A c us :=
  own_far h (fun k hk he => h.apart rfl hq ht (by rw [hk]; exact congrArg some he.symm)) u

def ivals (ns : List Nat) : Array Value := (ns.map fun n : Nat => Value.int .i64 (n : Int)).toArray
theorem ivals_at (ns : List Nat) (i : Nat) (h : i < ns.length) : (ivals ns)[i]? = some (.int .i64 ((ns.getD i 0 : Nat) : Int)) := by
  simp [ivals, h, List.getD]
theorem flat_snoc (us : List UInt8) (ns : List Nat) (i : Nat) (h : i < ns.length) : (us ++ (ns.take i).flatMap encB) ++ encB (ns.getD i 0) = us ++ (ns.take (i + 1)).flatMap encB := by
  rw [List.take_succ_eq_append_getElem h, List.flatMap_append, List.append_assoc]
  simp [List.getD, h]
theorem flat_len (ns : List Nat) (h : ∀ n ∈ ns, n ≤ 4611686018427387903) : (ns.flatMap encB).length ≤ 8 * ns.length := by
  induction ns with
  | nil => simp
  | cons n ns ih =>
    have h1 := encB_le8 n (h n List.mem_cons_self)
    have h2 := ih fun x hx => h x (List.mem_cons_of_mem _ hx)
    rw [List.flatMap_cons, List.length_append, List.length_cons]; omega
theorem getD_mem' (ns : List Nat) (i : Nat) (h : i < ns.length) : ns.getD i 0 ∈ ns := by
  simp [List.getD, h]

set_option maxRecDepth 100000 in
set_option maxHeartbeats 2000000 in
theorem put_any (base g q m : Nat) (ns : List Nat) (us : List UInt8) (hns : ∀ n ∈ ns, n ≤ 4611686018427387903) (hm : ns.length = m) (hm3 : m ≤ 3) (hu : us.length ≤ 2000) (w : World) (hbg : base ≤ g) (hP : Pen w base g us) (hQ : Blk w q 3 (ivals ns)) :
    Calls Tryz.prog 87 #[.pointer (some ⟨g, 0, none⟩), .slice (some ⟨q, 0, none⟩) m m] w fun e w' => e = .returned (.tuple #[]) ∧ Pen w' base g (us ++ ns.flatMap encB) ∧ Keep g w w' ∧ Below base w w' := by
  have hbw : base ≤ w.heap.size := by
    obtain ⟨_, _, _, _, h2, _⟩ := hP
    have := h2.lt; omega
  have HNS := Lib.hid hns
  have HM := Lib.hid hm
  have HP := Lib.hid hP
  have HQ := Lib.hid hQ
  clear hns hm hP hQ
  go_enter Tryz.func87, Tryz.ntmps87
  go_wp2_with fail
  go_loopw [10] (fun iv wr => ∃ i : Nat, i ≤ m ∧ iv = .int .i64 (i : Int) ∧ Pen wr base g (us ++ (ns.take i).flatMap encB) ∧ Keep g w wr ∧ Below base w wr) (fun iv _ => m - (intOf iv).toNat)
  case atStart => exact ⟨0, Nat.zero_le _, rfl, by simpa using HP.out, Keep.refl _ _, Below.refl _ _⟩
  case round =>
    obtain ⟨i, hi, rfl, hP, hK, hb⟩ := hrel
    have HK := Lib.hid hK
    have HB := Lib.hid hb
    have HPW := Lib.hid hP
    clear hK hP hb
    by_cases hlt : i < m
    · have hil : i < ns.length := by rw [HM.out]; exact hlt
      have hgq : q ≠ g := by
        intro he
        obtain ⟨A0, n0, c0, _, h2, _⟩ := HP.out
        have h3 : w.heap[q]? = _ := HQ.out
        rw [he, h2] at h3
        injection h3 with h3
        injection h3 with _ h4
        exact absurd h4 (by decide)
      have hQr := HK.out q _ _ hgq (by decide) HQ.out
      have hql := hQr.lt
      have hqf := hQr.frozen i
      have hqc := hQr.cell i
      rw [ivals_at ns i hil] at hqc
      have hxle := HNS.out _ (getD_mem' ns i hil)
      have HZ := Lib.hid (flat_snoc us ns i hil)
      have HUL : Hid ((us ++ (ns.take i).flatMap encB).length ≤ 2024) := by
        show _ ≤ _
        have := flat_len (ns.take i) fun x hx => HNS.out x (List.mem_of_mem_take hx)
        rw [List.length_append]
        rw [List.length_take] at this
        omega
      clear hQr hgq
      generalize ns.getD i 0 = x at *
      have hi0 : (0 : Int) ≤ (i : Int) := by omega
      have him : (i : Int) < (m : Int) := by omega
      go_wp2_with fail
      refine (encode_any x (by omega) _).mono ?_
      rintro e w3 ⟨rfl, hE, hb3⟩
      have hP3 := HPW.out.carry hb3
      have hK3 := HK.out.trans (Keep.below hb3)
      have hB3 := HB.out.trans (hb3.mono (Nat.le_trans hbw HB.out.size))
      have hsz3 : base ≤ w3.heap.size := by
        obtain ⟨A0, n0, c0, _, h2, _⟩ := hP3
        have := h2.lt; omega
      obtain ⟨A, n, c, hn, hG, hO⟩ := hP3
      have HE := Lib.hid hE.rdB
      have HN := Lib.hid hn
      have HG := Lib.hid hG
      have HO := Lib.hid hO
      have HK3 := Lib.hid hK3
      have HB3 := Lib.hid hB3
      have hn2 : n ≤ 2024 := by rw [← hn]; exact HUL.out
      have hx8 := (encB_le8 x hxle).1
      obtain ⟨k, hk⟩ : ∃ k, (encB x).length = k := ⟨_, rfl⟩
      have HKX := Lib.hid hk
      rw [hk] at hx8 ⊢
      have hgl := hG.lt
      have hg0 := hG.cell 0
      have hgf := hG.frozen 0
      replace hg0 : w3.cell? ⟨g, 0, none⟩ = some (.slice A n c) := hg0
      clear hE hn hG hO hK3 hB3 hb3 hk HK HB HPW hql hqf hqc
      go_wp2_with (at_builtin
                   refine wpList_appBG _ rfl (.tmp 23) (.tmp 24) _ rfl base 5 Tryz.underlying30 u8_info A n c _ rfl HN.out HO.out _ k k (encB x) rfl HKX.out HE.out _ HZ.out (n + k) rfl (by omega) hsz3 ?_
                   intro A6 c6 w6 hO6 hc6 hm6 hb6 hgr6
                   have hG6 := HG.out.grown hgr6 (HO.out.apart HN.out HG.out (by decide))
                   have hK6 := Keep.grown (g := g) HO.out HN.out hgr6
                   have hgl6 := hG6.lt
                   have hgf6 := hG6.frozen 0
                   have hgc6 := hG6.two1)
      go_roundw
      case rel =>
        refine ⟨i + 1, by omega, by first | (go_num; done) | rfl, ⟨A6, n + k, c6, ?_, ?_, ?_⟩, ?_, ?_⟩
        · rw [← HZ.out, List.length_append, HN.out, HKX.out]
        · exact hG6.set_ 0 _
        · exact hO6.set_far hG6 (by decide) _ _
        · exact (HK3.out.trans hK6).trans (Keep.set _ _ _)
        · exact (HB3.out.trans hb6).setCell hbg _
      case measure => first | (simp [intOf]; done) | (simp [intOf]; omega)
    · obtain rfl : i = m := by omega
      go_wp2_with fail
      go_end0
      refine ⟨by first | rfl | simp, ?_, HK.out, HB.out⟩
      have := HPW.out
      rwa [List.take_of_length_le (by rw [HM.out]; exact Nat.le_refl _)] at this
end Go.Proofs.YtbcagdjfegobnaaGreat
/- Plain: a frame's ranges as_v they are written, range by range; what is known of a frame that is being written. -/
namespace Go.Proofs.YtbcagdjfegobnaaGreat
open Go.RowKit
set_option linter.unusedVariables false

/-- The bytes of the first ranges. -/
def preR (l : List Rng) : Nat → List UInt8
  | 0 => []
  | 1 => encB (l.getD 0 (0, 0)).2.toNat ++ (encB (l.length - 1) ++ encB ((l.getD 0 (0, 0)).2 - (l.getD 0 (0, 0)).1).toNat)
  | i + 2 => preR l (i + 1) ++ (encB ((l.getD i (0, 0)).1 - (l.getD (i + 1) (0, 0)).2 - 2).toNat ++ encB ((l.getD (i + 1) (0, 0)).2 - (l.getD (i + 1) (0, 0)).1).toNat)
def preS (p : Int) (l : List Rng) : Nat → List UInt8
  | 0 => []
  | i + 1 => preS p l i ++ (encB ((match i with | 0 => p | j + 1 => (l.getD j (0, 0)).1) - (l.getD i (0, 0)).2 - 2).toNat ++ encB ((l.getD i (0, 0)).2 - (l.getD i (0, 0)).1).toNat)
theorem preS_cons (p : Int) (x : Rng) (l : List Rng) (i : Nat) : preS p (x :: l) (i + 1) = encB (p - x.2 - 2).toNat ++ (encB (x.2 - x.1).toNat ++ preS x.1 l i) := by
  induction i with
  | zero => simp [preS]
  | succ i ih =>
    rw [preS, ih]
    cases i with
    | zero => simp [preS]
    | succ j => simp [preS]
theorem preS_full (p : Int) (l : List Rng) : preS p l l.length = encRs p l := by
  induction l generalizing p with
  | nil => rfl
  | cons x l ih => rw [List.length_cons, preS_cons, ih]; rfl
theorem preR_cons (x : Rng) (l : List Rng) (i : Nat) : preR (x :: l) (i + 1) = encB x.2.toNat ++ (encB l.length ++ (encB (x.2 - x.1).toNat ++ preS x.1 l i)) := by
  induction i with
  | zero => simp [preR, preS]
  | succ i ih =>
    rw [preR, ih]
    cases i with
    | zero => simp [preS]
    | succ j => simp [preS]
theorem preR_full (l : List Rng) : preR l l.length = encRng l := by
  cases l with
  | nil => rfl
  | cons x l => rw [List.length_cons, preR_cons, preS_full]; rfl
theorem goodDown_at {p : Int} {l : List Rng} (h : goodDown p l) (hp : p ≤ 4611686018427387905) (k : Nat) (hk : k < l.length) : 0 ≤ (l.getD k (0, 0)).1 ∧ (l.getD k (0, 0)).1 ≤ (l.getD k (0, 0)).2 ∧ (l.getD k (0, 0)).2 ≤ 4611686018427387903 := by
  induction l generalizing p k with
  | nil => simp at hk
  | cons x l ih =>
    obtain ⟨h1, h2, h3, h4⟩ := h
    cases k with
    | zero => exact ⟨h3, h2, by show x.2 ≤ _; omega⟩
    | succ k => exact ih h4 (by omega) k (by simpa using hk)
theorem goodDown_next {p : Int} {l : List Rng} (h : goodDown p l) (k : Nat) (hk : k + 1 < l.length) : (l.getD (k + 1) (0, 0)).2 + 2 ≤ (l.getD k (0, 0)).1 := by
  induction l generalizing p k with
  | nil => simp at hk
  | cons x l ih =>
    obtain ⟨h1, h2, h3, h4⟩ := h
    cases k with
    | zero =>
      cases l with
      | nil => simp at hk
      | cons y l => exact h4.1
    | succ k => exact ih h4 k (by simpa using hk)

theorem u8w (x : Int) : IntKind.u8.wrap x = x % 256 := by
  first | rfl | rw [IntKind.wrap_u8] | simp [IntKind.wrap]
theorem shr_byte (code r : Nat) (p : Int) (hp : p = 8 * (r : Int)) : IntKind.u8.wrap ((code : Int) / 2 ^ p.toNat) = ((UInt8.ofNat (code / 256 ^ r)).toNat : Int) := by
  have h : p.toNat = 8 * r := by omega
  have h2 : (2 : Int) ^ (8 * r) = ((256 ^ r : Nat) : Int) := by
    have : (2 ^ (8 * r) : Nat) = 256 ^ r := by rw [Nat.pow_mul]
    rw [← this]; simp
  rw [h, u8w, h2]
  simp
/-- A frame that is being written. -/
structure EncSt (w0 w : World) (g hp : Nat) (cs pc : Array Value) (us : List UInt8) (L : Nat) : Prop where
  gt : w0.heap.size < g
  ne : hp ≠ g
  pen : Pen w w0.heap.size g us
  fr : Blk w w0.heap.size 68 cs
  pt : Blk w hp 182 pc
  bel : Below w0.heap.size w0 w
  len : us.length ≤ L
theorem EncSt.alloc {w0 w : World} {g hp : Nat} {cs pc : Array Value} {us : List UInt8} {L : Nat} (h : EncSt w0 w g hp cs pc us L) (o : Obj) : EncSt w0 (w.alloc o) g hp cs pc us L :=
  ⟨h.gt, h.ne, h.pen.carry ((Below.refl _ _).alloc (Nat.le_refl _) o), h.fr.alloc o, h.pt.alloc o, h.bel.alloc h.bel.size o, h.len⟩
theorem EncSt.drew {w0 w : World} {g hp : Nat} {cs pc : Array Value} {us : List UInt8} {L : Nat} (h : EncSt w0 w g hp cs pc us L) : EncSt w0 w.drew g hp cs pc us L :=
  ⟨h.gt, h.ne, h.pen, h.fr, h.pt, h.bel.drew, h.len⟩
theorem EncSt.put {w0 w w' : World} {g hp : Nat} {cs pc : Array Value} {us : List UInt8} {L : Nat} (h : EncSt w0 w g hp cs pc us L) {zs : List UInt8} (hP : Pen w' w0.heap.size g zs) (hK : Keep g w w') (hb : Below w0.heap.size w w') {L' : Nat} (hl : zs.length ≤ L') : EncSt w0 w' g hp cs pc zs L' :=
  ⟨h.gt, h.ne, hP, hK _ _ _ (by have := h.gt; omega) (by decide) h.fr, hK _ _ _ h.ne (by decide) h.pt, h.bel.trans hb, hl⟩
theorem EncSt.up {w0 w : World} {g hp : Nat} {cs pc : Array Value} {us : List UInt8} {L L' : Nat} (h : EncSt w0 w g hp cs pc us L) (hl : L ≤ L') : EncSt w0 w g hp cs pc us L' :=
  ⟨h.gt, h.ne, h.pen, h.fr, h.pt, h.bel, Nat.le_trans h.len hl⟩
/-- What the walk asks of the pen behind an append. -/
theorem pen_app {w w6 : World} {g base : Nat} {A : Option Addr} {n c : Nat} {us : List UInt8} (hn : us.length = n) (hG : Blk w g 180 #[.slice A n c]) (hO : OwnB w base 5 A c us) (hgr : w.grownBy w6 (Value.slice A n c).ownBlock) :
    Blk w6 g 180 #[.slice A n c] ∧ g < w6.heap.size ∧ w6.cell? ⟨g, 0, none⟩ = some (.slice A n c) ∧ w6.frozen? ⟨g, 0, none⟩ = false := by
  have h := hG.grown hgr (hO.apart hn hG (by decide))
  exact ⟨h, h.lt, h.two1, h.frozen 0⟩
theorem EncSt.app {w0 w w6 : World} {g hp : Nat} {cs pc : Array Value} {us : List UInt8} {L : Nat} (h : EncSt w0 w g hp cs pc us L) {A : Option Addr} {n c : Nat} (hn : us.length = n) (hG : Blk w g 180 #[.slice A n c]) (hO : OwnB w w0.heap.size 5 A c us)
    (hgr : w.grownBy w6 (Value.slice A n c).ownBlock) (hb : Below w0.heap.size w w6) {A6 : Option Addr} {k c6 : Nat} {zs : List UInt8} (hk : zs.length = k) (hO6 : OwnB w6 w0.heap.size 5 A6 c6 zs) {L' : Nat} (hl : k ≤ L') :
    EncSt w0 (w6.setCell ⟨g, 0, none⟩ (.slice A6 k c6)) g hp cs pc zs L' := by
  obtain ⟨hG6, _⟩ := pen_app hn hG hO hgr
  refine h.put ⟨A6, k, c6, hk, hG6.set_ 0 _, hO6.set_far hG6 (by decide) _ _⟩ ((Keep.grown hO hn hgr).trans (Keep.set _ _ _)) (hb.setCell (Nat.le_of_lt h.gt) _) (by rw [hk]; exact hl)
theorem ivals1 (W : World) (a : Int) (x : Nat) (h : a = (x : Int)) : Blk (W.alloc (.cells #[.int .i64 a] 3)) W.heap.size 3 (ivals [x]) := by subst h; exact Blk.new _ _ _
theorem ivals2 (W : World) (a b : Int) (x y : Nat) (h : a = (x : Int)) (k : b = (y : Int)) : Blk (W.alloc (.cells #[.int .i64 a, .int .i64 b] 3)) W.heap.size 3 (ivals [x, y]) := by subst h; subst k; exact Blk.new _ _ _
theorem ivals3 (W : World) (a b c : Int) (x y z : Nat) (h : a = (x : Int)) (k : b = (y : Int)) (l : c = (z : Int)) : Blk (W.alloc (.cells #[.int .i64 a, .int .i64 b, .int .i64 c] 3)) W.heap.size 3 (ivals [x, y, z]) := by subst h; subst k; subst l; exact Blk.new _ _ _
/-- put, while a frame is being written. -/
theorem put_st {w0 w : World} {g hp : Nat} {cs pc : Array Value} {us : List UInt8} {L : Nat} (h : EncSt w0 w g hp cs pc us L) (hL : L ≤ 2000) (q m : Nat) (ns : List Nat) (hns : ∀ n ∈ ns, n ≤ 4611686018427387903) (hm : ns.length = m) (hm3 : m ≤ 3) (hQ : Blk w q 3 (ivals ns)) (zs : List UInt8) (hz : us ++ ns.flatMap encB = zs) :
    Calls Tryz.prog 87 #[.pointer (some ⟨g, 0, none⟩), .slice (some ⟨q, 0, none⟩) m m] w fun e w' => e = .returned (.tuple #[]) ∧ EncSt w0 w' g hp cs pc zs (L + 8 * m) ∧ Keep g w w' := by
  subst hz
  refine (put_any w0.heap.size g q m ns us hns hm hm3 (Nat.le_trans h.len hL) w (Nat.le_of_lt h.gt) h.pen hQ).mono ?_
  rintro e w' ⟨he, hP, hK, hb⟩
  refine ⟨he, h.put hP hK hb ?_, hK⟩
  have := flat_len ns hns
  rw [List.length_append]; have := h.len; omega
end Go.Proofs.YtbcagdjfegobnaaGreat
