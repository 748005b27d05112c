/- The contracts of a pen's number and text, and that rows of fields stay. -/
import Derived.Test.YtihngonemdaihaaFPen
import Derived.Test.YtihngonemdaihaaNest
import Derived.Test.YtihngonemdaihaaOwnGrown
import Derived.Test.YtihngonemdaihaaTable
namespace Go.Proofs.Ytihngonemdaihaa
open Go.ChangeShapes Go.WideShapes Go.ChangeAt Go.RowKit
set_option linter.unusedVariables false

/-- Rows of fields stay. -/
def KeepO (w w' : World) : Prop := ∀ (b : Nat) (T : Option Addr) (c : Nat) (xs : List Fld), OwnX fcells 2 w b 47 T c xs → OwnX fcells 2 w' b 47 T c xs
theorem KeepO.trans {a b c : World} (h : KeepO a b) (k : KeepO b c) : KeepO a c := fun q T d xs ho => k q T d xs (h q T d xs ho)
theorem KeepO.below {w w' : World} (h : Below w.heap.size w w') : KeepO w w' := fun b T c xs ho => ho.carry h
theorem own_type {w : World} {base : Nat} {E : TypeId} {size n : Nat} {v : Value} {xs : List Value} (h : w.ownsRow base E size v n xs) {k : Nat} (hk : v.ownBlock = some k) {q : Nat} {t : TypeId} {cs : Array Value} {fr : Nat × Nat} (hq : w.heap[q]? = some (.cells cs t fr)) (ht : t ≠ E) : k ≠ q := by
  rcases h.2 with ⟨h2, _⟩ | ⟨g, cap, cur, hv, hg, hh, _⟩
  · rw [h2] at hk; cases hk
  · rw [hv] at hk
    intro e
    have : k = g := by injection hk with hk; exact hk.symm
    subst this
    subst e
    rw [hh] at hq
    injection hq with hq
    injection hq with _ h3
    exact ht h3.symm
theorem KeepO.set {w : World} {q : Nat} {t : TypeId} {cs : Array Value} (hq : Blk w q t cs) (ht : t ≠ 47) (i : Nat) (u : Value) : KeepO w (w.setCell ⟨q, i, none⟩ u) := fun b T c xs ho =>
  own_far ho (fun k hk => own_type ho hk (show w.heap[q]? = some (.cells cs t (0, 0)) from hq) ht) u
theorem KeepO.grown {w w' : World} {base : Nat} {A : Option Addr} {c n : Nat} {us : List UInt8} (h : OwnB w base 5 A c us) (hn : us.length = n) (hg : w.grownBy w' (Value.slice A n c).ownBlock) : KeepO w w' := fun b T d xs ho => by
  subst hn
  refine own_grown ho hg fun k hk he => ?_
  rcases h.2 with ⟨h2, _⟩ | ⟨g, cap, cur, hv, hgb, hh, _⟩
  · rw [h2] at he; cases he
  · rw [hv] at he
    have : k = g := by injection he
    subst this
    exact own_type ho hk hh (by decide) rfl

set_option maxRecDepth 100000 in
set_option maxHeartbeats 2000000 in
theorem fpNumber_own (base g : Nat) (us : List UInt8) (v : Nat) (h1 : 1 ≤ v) (h8 : v ≤ 8) (cc : UInt8) (hcc : cc.toNat % 2 ^ v = 0) (N : Nat) (hN : (N : Int) ≤ 4611686018427387903) (hu : us.length ≤ 20000) (w : World) (hbg : base ≤ g) (hP : PenF w base g us) :
    Calls Try.prog 31 #[.pointer (some ⟨g, 0, none⟩), .int .u8 (cc.toNat : Int), .int .i64 (v : Int), .int .i64 (N : Int)] w fun e w' => e = .returned (.tuple #[]) ∧ PenF w' base g (us ++ pEnc v cc N) ∧ Keep g w w' ∧ Below base w w' ∧ KeepO w w' := by
  have hgl := hP.lt
  have hbw : base ≤ w.heap.size := by omega
  obtain ⟨K, hK⟩ : ∃ K, (pEnc v cc N).length = K := ⟨_, rfl⟩
  have HC : Hid (∀ W, Calls Try.prog 40 #[.int .u8 (cc.toNat : Int), .int .i64 v, .int .i64 (N : Int)] W fun e w' => ∃ A c, e = .returned (.tuple #[.slice A K c, .int .i64 0]) ∧ OwnB w' W.heap.size 5 A c (pEnc v cc N) ∧ c ≤ 9223372036854775807 ∧ Below W.heap.size W w') := by
    exact fun W => penc_any v h1 h8 cc hcc N hN _ hK W
  have hK200 : K ≤ 200 := by have := pEnc_len v cc N; rw [hK] at this; omega
  have HKX := Lib.hid hK
  have HP := Lib.hid hP
  obtain ⟨ci, hci⟩ : ∃ ci : Int, (cc.toNat : Int) = ci := ⟨_, rfl⟩
  rw [hci] at HC ⊢
  obtain ⟨ext, hext⟩ : ∃ ext, pEnc v cc N = ext := ⟨_, rfl⟩
  rw [hext] at HC HKX ⊢
  clear hK hP hcc hci hext
  go_enter Try.func31, Try.ntmps31
  go_wp2_with fail
  refine (HC.out _).mono ?_
  rintro e w3 ⟨A5, c5, rfl, hE, hc5, hb3⟩
  have hP3 := HP.out.carry hb3
  have HK3 := Lib.hid (Keep.below (g := g) hb3)
  have HB3 := Lib.hid (hb3.mono hbw)
  have HKO3 := Lib.hid (KeepO.below hb3)
  have hsz3 : base ≤ w3.heap.size := Nat.le_trans hbw hb3.size
  obtain ⟨A, n, c, hn, hG, hO⟩ := hP3
  have HE := Lib.hid hE.rd
  have HN := Lib.hid hn
  have HG := Lib.hid hG
  have HO := Lib.hid hO
  have hn2 : n ≤ 20000 := by rw [← hn]; exact hu
  have hgl := hG.lt
  have hg0 := hG.cell 0
  have hgf := hG.frozen 0
  replace hg0 : w3.cell? ⟨g, 0, none⟩ = some (.slice A n c) := hg0
  clear hE hn hG hO hb3
  go_wp2_with (at_builtin
               refine wpList_appBG _ rfl (.tmp 21) (.tmp 22) _ rfl base 5 Try.underlying24 u8_infoP A n c _ rfl HN.out HO.out A5 K c5 ext rfl HKX.out HE.out _ rfl (n + K) rfl (by omega) hsz3 ?_
               intro A6 c6 w6 hO6 hc6 hm6 hb6 hgr6
               have hG6 := HG.out.grown hgr6 (HO.out.apart HN.out HG.out (by decide))
               have hK6 := Keep.grown (g := g) HO.out HN.out hgr6
               have hKO6 := KeepO.grown HO.out HN.out hgr6
               have hgl6 := hG6.lt
               have hgf6 := hG6.frozen 0
               have hgc6 := hG6.two1)
  go_end0
  refine ⟨rfl, ⟨A6, n + K, c6, by rw [List.length_append, HN.out, HKX.out], (hG6.set_ 0 _).as (by rfl), hO6.set_far hG6 (by decide) 0 _⟩, (HK3.out.trans hK6).trans (Keep.set _ 0 _), (HB3.out.trans hb6).setCell hbg _, (HKO3.out.trans hKO6).trans (KeepO.set hG6 (by decide) 0 _)⟩

set_option maxRecDepth 100000 in
set_option maxHeartbeats 2000000 in
theorem fpText_own (base g : Nat) (us : List UInt8) (v : Nat) (h1 : 1 ≤ v) (h8 : v ≤ 8) (cc : UInt8) (hcc : cc.toNat % 2 ^ v = 0) (s : ByteArray) (hN : s.size ≤ 120) (hu : us.length ≤ 20000) (w : World) (hbg : base ≤ g) (hP : PenF w base g us) :
    Calls Try.prog 30 #[.pointer (some ⟨g, 0, none⟩), .int .u8 (cc.toNat : Int), .int .i64 (v : Int), .string s] w fun e w' => e = .returned (.tuple #[]) ∧ PenF w' base g (us ++ (pEnc v cc s.size ++ bts s)) ∧ Keep g w w' ∧ Below base w w' ∧ KeepO w w' := by
  have hgl := hP.lt
  have hbw : base ≤ w.heap.size := by omega
  obtain ⟨K, hK⟩ : ∃ K, (pEnc v cc s.size ++ bts s).length = K := ⟨_, rfl⟩
  have HC : Hid (∀ W, Calls Try.prog 39 #[.int .u8 (cc.toNat : Int), .int .i64 v, .string s] W fun e w' => ∃ A c, e = .returned (.tuple #[.slice A K c, .int .i64 0]) ∧ OwnB w' W.heap.size 5 A c ((pEnc v cc s.size ++ bts s)) ∧ c ≤ 9223372036854775807 ∧ Below W.heap.size W w') := by
    exact fun W => text_cc v h1 h8 cc hcc s hN _ rfl _ (by rw [← hK, List.length_append, bts_len]) W
  have hK200 : K ≤ 200 := by have := pEnc_len v cc s.size; rw [List.length_append, bts_len] at hK; omega
  have HKX := Lib.hid hK
  have HP := Lib.hid hP
  obtain ⟨ci, hci⟩ : ∃ ci : Int, (cc.toNat : Int) = ci := ⟨_, rfl⟩
  rw [hci] at HC ⊢
  obtain ⟨ext, hext⟩ : ∃ ext, (pEnc v cc s.size ++ bts s) = ext := ⟨_, rfl⟩
  rw [hext] at HC HKX ⊢
  clear hK hP hcc hci hext
  go_enter Try.func30, Try.ntmps30
  go_wp2_with fail
  refine (HC.out _).mono ?_
  rintro e w3 ⟨A5, c5, rfl, hE, hc5, hb3⟩
  have hP3 := HP.out.carry hb3
  have HK3 := Lib.hid (Keep.below (g := g) hb3)
  have HB3 := Lib.hid (hb3.mono hbw)
  have HKO3 := Lib.hid (KeepO.below hb3)
  have hsz3 : base ≤ w3.heap.size := Nat.le_trans hbw hb3.size
  obtain ⟨A, n, c, hn, hG, hO⟩ := hP3
  have HE := Lib.hid hE.rd
  have HN := Lib.hid hn
  have HG := Lib.hid hG
  have HO := Lib.hid hO
  have hn2 : n ≤ 20000 := by rw [← hn]; exact hu
  have hgl := hG.lt
  have hg0 := hG.cell 0
  have hgf := hG.frozen 0
  replace hg0 : w3.cell? ⟨g, 0, none⟩ = some (.slice A n c) := hg0
  clear hE hn hG hO hb3
  go_wp2_with (at_builtin
               refine wpList_appBG _ rfl (.tmp 21) (.tmp 22) _ rfl base 5 Try.underlying24 u8_infoP A n c _ rfl HN.out HO.out A5 K c5 ext rfl HKX.out HE.out _ rfl (n + K) rfl (by omega) hsz3 ?_
               intro A6 c6 w6 hO6 hc6 hm6 hb6 hgr6
               have hG6 := HG.out.grown hgr6 (HO.out.apart HN.out HG.out (by decide))
               have hK6 := Keep.grown (g := g) HO.out HN.out hgr6
               have hKO6 := KeepO.grown HO.out HN.out hgr6
               have hgl6 := hG6.lt
               have hgf6 := hG6.frozen 0
               have hgc6 := hG6.two1)
  go_end0
  refine ⟨rfl, ⟨A6, n + K, c6, by rw [List.length_append, HN.out, HKX.out], (hG6.set_ 0 _).as (by rfl), hO6.set_far hG6 (by decide) 0 _⟩, (HK3.out.trans hK6).trans (Keep.set _ 0 _), (HB3.out.trans hb6).setCell hbg _, (HKO3.out.trans hKO6).trans (KeepO.set hG6 (by decide) 0 _)⟩
end Go.Proofs.Ytihngonemdaihaa
