/- The contracts of a pen's number and text (fields), and of prefix.Text behind any bits. -/
import Derived.Test.YtihngonemdaihaaFPlain
import Derived.Test.YtihngonemdaihaaTextWalk
namespace Go.Proofs.Ytihngonemdaihaa
open Go.ChangeShapes Go.WideShapes Go.ChangeAt Go.RowKit
set_option linter.unusedVariables false

theorem wpList_appBG {P : Program} (w : World) {ops : Array Oper} {rest : List Oper} {o : Oper} {a : Act} {Q : Exit → Act → World → Prop} (hgd : o.guard = none) (s x : Operand) (t : TypeId)
    (ho : o.op = .call { callee := .builtin .append, args := #[s, x], argTypes := #[t, t] })
    (base : Nat) (E : TypeId) (ht : P.underlying t = some (.slice E)) (hinfo : (P.info? E).map (fun i => (i.zero, i.size, i.bytes)) = some (some (.int .u8 0), 1, 1))
    (A0 : Option Addr) (n0 c0 : Nat) (us : List UInt8) (hs : a.eval s = .slice A0 n0 c0) (hn0 : us.length = n0) (hown : OwnB w base E A0 c0 us)
    (A : Option Addr) (m0 c : Nat) (bs : List UInt8) (hx : a.eval x = .slice A m0 c) (hm0 : bs.length = m0) (hr : RdB w A bs)
    (zs : List UInt8) (hz : us ++ bs = zs) (k : Nat) (hk : n0 + m0 = k) (hbytes : n0 + m0 ≤ 140737488355328) (hbase : base ≤ w.heap.size)
    (h : ∀ A' c' w', OwnB w' base E A' c' zs → k ≤ c' → c' ≤ 9223372036854775807 → Below base w w' → w.grownBy w' (Value.slice A0 n0 c0).ownBlock → wpList P ops Q rest (a.put o.dst (.slice A' k c')) w') : wpList P ops Q (o :: rest) a w := by
  subst hz; subst hn0; subst hm0; subst hk
  refine wpList_plain hgd fun _ hK => wp_app2 w s x t ho base E (.int .u8 0) 1 1 ht hinfo rfl (by decide) A0 c0 us.length (u8s us) hs hown A bs.length c (u8s bs) hx hr (u8s_one bs) (by omega) (by decide) hbase fun A' c' w' h2 h3 h4 h5 h6 => hK _ _ ?_
  rw [← u8s_append, ← List.length_append] at h2
  exact h A' c' w' h2 h3 (by unfold maxLen at h4; omega) h5 h6

theorem Blk.two1 {w : World} {g : Nat} {t : TypeId} {x : Value} (h : Blk w g t #[x]) : w.cell? ⟨g, 0, none⟩ = some x := by rw [h.cell]; rfl
/-- A block of another type is not the row's. -/
theorem OwnB.apart {w : World} {base : Nat} {E : TypeId} {A : Option Addr} {c n : Nat} {us : List UInt8} (h : OwnB w base E A c us) (hn : us.length = n) {q : Nat} {t : TypeId} {cs : Array Value} (hq : Blk w q t cs) (ht : t ≠ E) : some q ≠ (Value.slice A n c).ownBlock := by
  subst hn
  rcases h.2 with ⟨h2, _⟩ | ⟨g, cap, cur, hv, hg, hh, _⟩
  · rw [h2]; intro hh; cases hh
  · rw [hv]
    intro he
    have : q = g := by injection he
    subst this
    have hq' : w.heap[q]? = some (.cells cs t (0, 0)) := hq
    rw [hh] at hq'
    injection hq' with hq'
    injection hq' with _ h3
    exact ht h3.symm

/-- What stays where a pen writes: all blocks but its own, and of bytes. -/
def Keep (g : Nat) (w w' : World) : Prop := ∀ q t cs, q ≠ g → t ≠ 5 → Blk w q t cs → Blk w' q t cs
theorem Keep.refl (g : Nat) (w : World) : Keep g w w := fun _ _ _ _ _ h => h
theorem Keep.trans {g : Nat} {a b c : World} (h : Keep g a b) (k : Keep g b c) : Keep g a c := fun q t cs h1 h2 hq => k q t cs h1 h2 (h q t cs h1 h2 hq)
theorem Keep.below {g : Nat} {w w' : World} (h : Below w.heap.size w w') : Keep g w w' := fun q t cs _ _ hq => hq.carry h
theorem Keep.set {g : Nat} (w : World) (i : Nat) (u : Value) : Keep g w (w.setCell ⟨g, i, none⟩ u) := fun q t cs h1 _ hq => hq.far (p := ⟨g, i, none⟩) h1 u
theorem Keep.grown {g base : Nat} {w w' : World} {A : Option Addr} {c n : Nat} {us : List UInt8} (h : OwnB w base 5 A c us) (hn : us.length = n) (hg : w.grownBy w' (Value.slice A n c).ownBlock) : Keep g w w' := fun q t cs _ ht hq => hq.grown hg (h.apart hn hq ht)

/-- A pen, and what it has written. -/
def PenF (w : World) (base g : Nat) (us : List UInt8) : Prop := ∃ A n c, us.length = n ∧ Blk w g 67 #[.slice A n c] ∧ OwnB w base 5 A c us
theorem PenF.carry {w w' : World} {base g : Nat} {us : List UInt8} (h : PenF w base g us) (hb : Below w.heap.size w w') : PenF w' base g us := by
  obtain ⟨A, n, c, h1, h2, h3⟩ := h
  exact ⟨A, n, c, h1, h2.carry hb, h3.below hb (Nat.le_refl _)⟩
theorem PenF.lt {w : World} {base g : Nat} {us : List UInt8} (h : PenF w base g us) : g < w.heap.size := by
  obtain ⟨A, n, c, h1, h2, h3⟩ := h
  exact h2.lt
theorem OwnB.set_far {w : World} {base : Nat} {A : Option Addr} {c : Nat} {us : List UInt8} (h : OwnB w base 5 A c us) {q : Nat} {t : TypeId} {cs : Array Value} (hq : Blk w q t cs) (ht : t ≠ 5) (i : Nat) (u : Value) : OwnB (w.setCell ⟨q, i, none⟩ u) base 5 A c us :=
  own_far h (fun k hk he => h.apart rfl hq ht (by rw [hk]; exact congrArg some he.symm)) u


set_option maxRecDepth 100000 in
theorem text_cc (v : Nat) (h1 : 1 ≤ v) (h8 : v ≤ 8) (cc : UInt8) (hcc : cc.toNat % 2 ^ v = 0) (s : ByteArray) (hs : s.size ≤ 120) (E : List UInt8) (hE : pEnc v cc s.size = E) (L : Nat) (hL : E.length + s.size = L) (W : World) :
    Calls Try.prog 39 #[.int .u8 (cc.toNat : Int), .int .i64 v, .string s] W fun e w' =>
      ∃ A c, e = .returned (.tuple #[.slice A L c, .int .i64 0]) ∧ OwnB w' W.heap.size 5 A c (E ++ bts s) ∧ c ≤ 9223372036854775807 ∧ Below W.heap.size W w' := by
  obtain ⟨m, hm⟩ : ∃ m, E.length = m := ⟨_, rfl⟩
  have HP : Hid (∀ W, Calls Try.prog 40 #[.int .u8 (cc.toNat : Int), .int .i64 v, .int .i64 s.size] W fun e w' => ∃ A c, e = .returned (.tuple #[.slice A m c, .int .i64 0]) ∧ OwnB w' W.heap.size 5 A c E ∧ c ≤ 9223372036854775807 ∧ Below W.heap.size W w') := by
    subst hE; subst hm
    exact fun W => penc_any v h1 h8 cc hcc s.size (by omega) _ rfl W
  have HM := Lib.hid hm
  have HL := Lib.hid hL
  have hm10 : m ≤ 10 := by have := pEnc_len v cc s.size; rw [hE] at this; omega
  obtain ⟨ci, hci⟩ : ∃ ci : Int, (cc.toNat : Int) = ci := ⟨_, rfl⟩
  rw [hci] at HP ⊢
  clear hE hm hL h1 h8 hcc hci
  go_enter Try.func39, Try.ntmps39
  go_wp2_with fail
  refine (HP.out _).mono ?_
  rintro e w1 ⟨A0, c0, rfl, hO, hc, hb⟩
  go_wp2_with (at_builtin
               refine wpList_appS w1 rfl (.tmp 24) (.tmp 25) _ _ rfl W.heap.size 5 Try.underlying24 Try.underlying9 u8_infoP A0 m c0 E rfl HM.out hO s rfl _ rfl L (by have := HL.out; have := HM.out; omega) (by omega) (by have := hb.size; omega) ?_
               intro A1 c1 w2 hO1 hc1 hc1' hb1)
  go_ret2
  exact ⟨A1, c1, rfl, hO1, hc1', hb.trans hb1⟩

set_option maxRecDepth 100000 in
set_option maxHeartbeats 2000000 in
theorem fpNumber_any (base g : Nat) (us : List UInt8) (v : Nat) (h1 : 1 ≤ v) (h8 : v ≤ 8) (cc : UInt8) (hcc : cc.toNat % 2 ^ v = 0) (N : Nat) (hN : (N : Int) ≤ 4611686018427387903) (hu : us.length ≤ 20000) (w : World) (hbg : base ≤ g) (hP : PenF w base g us) :
    Calls Try.prog 31 #[.pointer (some ⟨g, 0, none⟩), .int .u8 (cc.toNat : Int), .int .i64 (v : Int), .int .i64 (N : Int)] w fun e w' => e = .returned (.tuple #[]) ∧ PenF w' base g (us ++ pEnc v cc N) ∧ Keep g w w' ∧ Below base w w' := by
  have hgl := hP.lt
  have hbw : base ≤ w.heap.size := by omega
  obtain ⟨K, hK⟩ : ∃ K, (pEnc v cc N).length = K := ⟨_, rfl⟩
  have HC : Hid (∀ W, Calls Try.prog 40 #[.int .u8 (cc.toNat : Int), .int .i64 v, .int .i64 (N : Int)] W fun e w' => ∃ A c, e = .returned (.tuple #[.slice A K c, .int .i64 0]) ∧ OwnB w' W.heap.size 5 A c (pEnc v cc N) ∧ c ≤ 9223372036854775807 ∧ Below W.heap.size W w') := by
    exact fun W => penc_any v h1 h8 cc hcc N hN _ hK W
  have hK200 : K ≤ 200 := by have := pEnc_len v cc N; rw [hK] at this; omega
  have HKX := Lib.hid hK
  have HP := Lib.hid hP
  obtain ⟨ci, hci⟩ : ∃ ci : Int, (cc.toNat : Int) = ci := ⟨_, rfl⟩
  rw [hci] at HC ⊢
  obtain ⟨ext, hext⟩ : ∃ ext, pEnc v cc N = ext := ⟨_, rfl⟩
  rw [hext] at HC HKX ⊢
  clear hK hP hcc hci hext
  go_enter Try.func31, Try.ntmps31
  go_wp2_with fail
  refine (HC.out _).mono ?_
  rintro e w3 ⟨A5, c5, rfl, hE, hc5, hb3⟩
  have hP3 := HP.out.carry hb3
  have HK3 := Lib.hid (Keep.below (g := g) hb3)
  have HB3 := Lib.hid (hb3.mono hbw)
  have hsz3 : base ≤ w3.heap.size := Nat.le_trans hbw hb3.size
  obtain ⟨A, n, c, hn, hG, hO⟩ := hP3
  have HE := Lib.hid hE.rd
  have HN := Lib.hid hn
  have HG := Lib.hid hG
  have HO := Lib.hid hO
  have hn2 : n ≤ 20000 := by rw [← hn]; exact hu
  have hgl := hG.lt
  have hg0 := hG.cell 0
  have hgf := hG.frozen 0
  replace hg0 : w3.cell? ⟨g, 0, none⟩ = some (.slice A n c) := hg0
  clear hE hn hG hO hb3
  go_wp2_with (at_builtin
               refine wpList_appBG _ rfl (.tmp 21) (.tmp 22) _ rfl base 5 Try.underlying24 u8_infoP A n c _ rfl HN.out HO.out A5 K c5 ext rfl HKX.out HE.out _ rfl (n + K) rfl (by omega) hsz3 ?_
               intro A6 c6 w6 hO6 hc6 hm6 hb6 hgr6
               have hG6 := HG.out.grown hgr6 (HO.out.apart HN.out HG.out (by decide))
               have hK6 := Keep.grown (g := g) HO.out HN.out hgr6
               have hgl6 := hG6.lt
               have hgf6 := hG6.frozen 0
               have hgc6 := hG6.two1)
  go_end0
  refine ⟨rfl, ⟨A6, n + K, c6, by rw [List.length_append, HN.out, HKX.out], (hG6.set_ 0 _).as (by rfl), hO6.set_far hG6 (by decide) 0 _⟩, (HK3.out.trans hK6).trans (Keep.set _ 0 _), (HB3.out.trans hb6).setCell hbg _⟩

set_option maxRecDepth 100000 in
set_option maxHeartbeats 2000000 in
theorem fpText_any (base g : Nat) (us : List UInt8) (v : Nat) (h1 : 1 ≤ v) (h8 : v ≤ 8) (cc : UInt8) (hcc : cc.toNat % 2 ^ v = 0) (s : ByteArray) (hN : s.size ≤ 120) (hu : us.length ≤ 20000) (w : World) (hbg : base ≤ g) (hP : PenF w base g us) :
    Calls Try.prog 30 #[.pointer (some ⟨g, 0, none⟩), .int .u8 (cc.toNat : Int), .int .i64 (v : Int), .string s] w fun e w' => e = .returned (.tuple #[]) ∧ PenF w' base g (us ++ (pEnc v cc s.size ++ bts s)) ∧ Keep g w w' ∧ Below base w w' := by
  have hgl := hP.lt
  have hbw : base ≤ w.heap.size := by omega
  obtain ⟨K, hK⟩ : ∃ K, (pEnc v cc s.size ++ bts s).length = K := ⟨_, rfl⟩
  have HC : Hid (∀ W, Calls Try.prog 39 #[.int .u8 (cc.toNat : Int), .int .i64 v, .string s] W fun e w' => ∃ A c, e = .returned (.tuple #[.slice A K c, .int .i64 0]) ∧ OwnB w' W.heap.size 5 A c ((pEnc v cc s.size ++ bts s)) ∧ c ≤ 9223372036854775807 ∧ Below W.heap.size W w') := by
    exact fun W => text_cc v h1 h8 cc hcc s hN _ rfl _ (by rw [← hK, List.length_append, bts_len]) W
  have hK200 : K ≤ 200 := by have := pEnc_len v cc s.size; rw [List.length_append, bts_len] at hK; omega
  have HKX := Lib.hid hK
  have HP := Lib.hid hP
  obtain ⟨ci, hci⟩ : ∃ ci : Int, (cc.toNat : Int) = ci := ⟨_, rfl⟩
  rw [hci] at HC ⊢
  obtain ⟨ext, hext⟩ : ∃ ext, (pEnc v cc s.size ++ bts s) = ext := ⟨_, rfl⟩
  rw [hext] at HC HKX ⊢
  clear hK hP hcc hci hext
  go_enter Try.func30, Try.ntmps30
  go_wp2_with fail
  refine (HC.out _).mono ?_
  rintro e w3 ⟨A5, c5, rfl, hE, hc5, hb3⟩
  have hP3 := HP.out.carry hb3
  have HK3 := Lib.hid (Keep.below (g := g) hb3)
  have HB3 := Lib.hid (hb3.mono hbw)
  have hsz3 : base ≤ w3.heap.size := Nat.le_trans hbw hb3.size
  obtain ⟨A, n, c, hn, hG, hO⟩ := hP3
  have HE := Lib.hid hE.rd
  have HN := Lib.hid hn
  have HG := Lib.hid hG
  have HO := Lib.hid hO
  have hn2 : n ≤ 20000 := by rw [← hn]; exact hu
  have hgl := hG.lt
  have hg0 := hG.cell 0
  have hgf := hG.frozen 0
  replace hg0 : w3.cell? ⟨g, 0, none⟩ = some (.slice A n c) := hg0
  clear hE hn hG hO hb3
  go_wp2_with (at_builtin
               refine wpList_appBG _ rfl (.tmp 21) (.tmp 22) _ rfl base 5 Try.underlying24 u8_infoP A n c _ rfl HN.out HO.out A5 K c5 ext rfl HKX.out HE.out _ rfl (n + K) rfl (by omega) hsz3 ?_
               intro A6 c6 w6 hO6 hc6 hm6 hb6 hgr6
               have hG6 := HG.out.grown hgr6 (HO.out.apart HN.out HG.out (by decide))
               have hK6 := Keep.grown (g := g) HO.out HN.out hgr6
               have hgl6 := hG6.lt
               have hgf6 := hG6.frozen 0
               have hgc6 := hG6.two1)
  go_end0
  refine ⟨rfl, ⟨A6, n + K, c6, by rw [List.length_append, HN.out, HKX.out], (hG6.set_ 0 _).as (by rfl), hO6.set_far hG6 (by decide) 0 _⟩, (HK3.out.trans hK6).trans (Keep.set _ 0 _), (HB3.out.trans hb6).setCell hbg _⟩
end Go.Proofs.Ytihngonemdaihaa
