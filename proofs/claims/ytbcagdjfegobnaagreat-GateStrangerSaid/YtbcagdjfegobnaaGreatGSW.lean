/- The walk of the law GateStranger: what comes from another address changes nothing of a connection. -/
import Derived.Test.YtbcagdjfegobnaaGreatC40
import Derived.Test.YtbcagdjfegobnaaGreatC42
import Derived.Test.YtbcagdjfegobnaaGreatC43
import Derived.Test.YtbcagdjfegobnaaGreatC44
namespace Go.Proofs.YtbcagdjfegobnaaGreat
open Go.ChangeShapes Go.WideShapes Go.ChangeAt Go.RowKit
set_option linter.unusedVariables false

theorem one_of_map {α β : Type} {f : α → β} {xs : List α} {b : β} (h : xs.map f = [b]) : ∃ x, xs = [x] ∧ f x = b := by
  cases xs with
  | nil => cases h
  | cons x l =>
    simp only [List.map_cons, List.cons.injEq, List.map_eq_nil_iff] at h
    obtain ⟨h1, rfl⟩ := h
    exact ⟨x, rfl, h1⟩
/-- What is known of a gate to which i strange packets came. -/
structure StrF (i : Nat) (g : GtD) (xs : List NtB) (K : Int) : Prop where
  pl : xs.map NtB.pl = [((1 : Int), (7 : Int), (1 : Int), K, false, (0 : Int))]
  ty : ∀ p, p = 2 ∨ p = 3 → (g.t p).1 = false ∧ (g.t p).2.1 ≤ 400 * i ∧ (g.t p).2.2 = 0
theorem StrF.step {i : Nat} {g : GtD} {xs ys : List NtB} {K : Int} (h : StrF i g xs K) (p bn : Nat) (hb : bn ≤ 400) (e : ys.map NtB.pl = xs.map NtB.pl) : StrF (i + 1) (g.set p (false, (g.t p).2.1 + bn, (g.t p).2.2)) ys K := by
  refine ⟨e.trans h.pl, fun q hq => ?_⟩
  have h1 := h.ty q hq
  by_cases hqp : q = p
  · subst hqp
    simp only [GtD.set, upd, if_true]
    exact ⟨trivial, by omega, h1.2.2⟩
  · simp only [GtD.set, upd, if_neg hqp]
    exact ⟨h1.1, by omega, h1.2.2⟩
theorem StrF.not {i : Nat} {g : GtD} {xs : List NtB} {K : Int} (h : StrF i g xs K) (p : Nat) (hp : p ≠ 1) : ∀ x ∈ xs, ¬ x.peer = (p : Nat) := by
  obtain ⟨x, rfl, hx⟩ := one_of_map h.pl
  intro y hy
  rw [List.mem_singleton.1 hy]
  have : x.peer = 1 := by simp only [NtB.pl, Prod.mk.injEq] at hx; exact hx.2.2.1
  omega
theorem nlit_0 (id from_ peer key last : Int) (A : Option Addr) (c : Nat) (B : Option Addr) (d : Nat) : (nlit id from_ peer key last A c B d)[0]? = some (.int .i64 id) := by kernel_rfl
theorem cutS_le (s : ByteArray) (m : Nat) : (cutS s m).size ≤ m := by
  unfold cutS
  rw [ByteArray.size_extract]
  omega
theorem own64 {w : World} {g base : Nat} {E : TypeId} (h : Blk w g E #[.int .u8 64, .int .u8 1]) (hb : base ≤ g) : OwnB w base E (some ⟨g, 0, none⟩) 2 [64, 1] := by
  have := h.own (base := base) (n := 2) (size := 1) hb (by simp) (by decide)
  simpa [OwnB, u8s] using this
theorem cells4 {w : World} {b o : Nat} {x0 x1 x2 x3 : Value} (c0 : w.cell? ⟨b, o, none⟩ = some x0) (c1 : w.cell? ⟨b, o + 1, none⟩ = some x1) (c2 : w.cell? ⟨b, o + 2, none⟩ = some x2) (c3 : w.cell? ⟨b, o + 3, none⟩ = some x3) : ∀ j v, (#[x0, x1, x2, x3] : Array Value)[j]? = some v → w.cell? ⟨b, o + j, none⟩ = some v := by
  intro j v hv
  have hj : j < 4 := (Array.getElem?_eq_some_iff.1 hv).1
  rcases (show j = 0 ∨ j = 1 ∨ j = 2 ∨ j = 3 by omega) with rfl | rfl | rfl | rfl <;> simp at hv <;> subst hv
  · exact c0
  · exact c1
  · exact c2
  · exact c3
theorem Blk.rdF {w : World} {g : Nat} {E : TypeId} {x : FrM} (h : Blk w g E #[.int .i64 x.f.kind, .int .i64 x.f.id, .int .i64 x.f.off, .bool x.f.fin, .int .i64 x.f.code, .slice x.A x.f.rngs.length x.c, .slice x.B x.f.data.length x.d]) : RdX fmc 7 w (some ⟨g, 0, none⟩) [x] :=
  ⟨rfl, fun _ => ⟨g, 0, rfl, fun j u hu => by rw [h.cell, Nat.zero_add]; simpa [fmc] using hu⟩⟩
theorem GtV.nt1 {w : World} {g : GtD} {A : Option Addr} {c : Nat} {xs : List NtB} {K : Int} (h : GtV w g A 1 c xs) (hp : xs.map NtB.pl = [((1 : Int), (7 : Int), (1 : Int), K, false, (0 : Int))]) : ∃ b o a ca bb d, A = some ⟨b, o, none⟩ ∧ ∀ j v, (nlit 1 7 1 K 0 a ca bb d)[j]? = some v → w.cell? ⟨b, o + j, none⟩ = some v := by
  obtain ⟨x, rfl, hx⟩ := one_of_map hp
  obtain ⟨b, o, rfl, hc⟩ := h.rd.nt (by simp)
  obtain ⟨a, ca, bb, d, hn⟩ := nta_lit hx (h.ok.nts x (by simp)).r
  refine ⟨b, o, a, ca, bb, d, rfl, fun j v hv => ?_⟩
  have h1 := hc 0 (by simp) j v
  simp only [List.getD_cons_zero, hn, Nat.zero_mul, Nat.add_zero] at h1
  exact h1 hv
theorem GtV.wrS {w w' : World} {g : GtD} {A : Option Addr} {n c : Nat} {xs : List NtB} (h : GtV w g A n c xs) {q : Nat} (hw : Wr q w w') (hA : ∀ a, A = some a → a.block ≠ q) : GtV w' g A n c xs := ⟨h.hn, h.hnc, h.hcm, h.ok, Rd.wr h.rd hw hA⟩
theorem ByS.wrS {w w' : World} {A : Option Addr} {k c : Nat} {bs : List UInt8} (h : ByS w A k c bs) {q : Nat} (hw : Wr q w w') (hA : ∀ a, A = some a → a.block ≠ q) : ByS w' A k c bs := { h with rd := Rd.wr h.rd hw hA }
section
variable {P : Program} {ops : Array Oper} {Q : Exit → Act → World → Prop} {k : Nat} {a : Act} {w : World} {ts : List Nat}
/-- append of a string in the tail. -/
theorem tappS (d : Tmp) (hd : (opK ops k).dst = some d) (hgd : (opK ops k).guard = none) (s x : Operand) (t tx : TypeId)
    (ho : (opK ops k).op = .call { callee := .builtin .append, args := #[s, x], argTypes := #[t, tx] })
    (base : Nat) (E : TypeId) (ht : P.underlying t = some (.slice E)) (htx : P.underlying tx = some .string) (hinfo : (P.info? E).map (fun i => (i.zero, i.size, i.bytes)) = some (some (.int .u8 0), 1, 1))
    (A0 : Option Addr) (n0 c0 : Nat) (as_ : List UInt8) (hs : a.eval s = .slice A0 n0 c0) (hn0 : as_.length = n0) (hown : OwnB w base E A0 c0 as_)
    (str : ByteArray) (hx : a.eval x = .string str)
    (zs : List UInt8) (hz : as_ ++ bts str = zs) (kk : Nat) (hk : n0 + str.size = kk) (hbytes : n0 + str.size ≤ 140737488355328) (hbase : base ≤ w.heap.size)
    (h : ∀ A' c' w', OwnB w' base E A' c' zs → kk ≤ c' → c' ≤ 9223372036854775807 → Below base w w' → wpList P ops Q (ts.map (opK ops)) (a.put (some d) (.slice A' kk c')) w') : wpList P ops Q ((k :: ts).map (opK ops)) a w := by
  rw [List.map_cons]
  exact wpList_appS w hgd s x t tx ho base E ht htx hinfo A0 n0 c0 as_ hs hn0 hown str hx zs hz kk hk hbytes hbase (fun A' c' w' h1 h2 h3 h4 => by rw [hd]; exact h A' c' w' h1 h2 h3 h4)
end

set_option maxRecDepth 100000 in
set_option maxHeartbeats 1000000 in
theorem gateStranger_walk (secret : Int) (RA : Option Addr) (len cap : Nat) (rs0 : List RawD) (w : World) (hse : (Lit.int .i64 secret).wf = true) (hrs : IsRaws w RA len cap rs0) :
    Calls Tryz.prog 6 #[.int .i64 secret, .slice RA len cap] w fun e w' => e = .returned (.bool true) ∧ Below w.heap.size w w' := by
  have hlc := hrs.2.2.1
  have hcm := hrs.2.2.2.1
  unfold maxLen at hcm
  obtain ⟨k, hk8⟩ : ∃ k : Nat, min (len : Int) 8 = k := ⟨(min (len : Int) 8).toNat, by omega⟩
  have hk88 : k ≤ 8 := by omega
  have hkl : k ≤ len := by omega
  have hkc : k ≤ cap := by omega
  have HSOME := Lib.hid (some_any RA len cap k 8 hlc hcm (by decide) (by decide) hk8)
  have HRS0 := Lib.hid (hrs.front k hkl)
  obtain ⟨rs, hrse⟩ : ∃ rs, rs0.take k = rs := ⟨_, rfl⟩
  rw [hrse] at HRS0
  have HRS := HRS0
  have hwr := wrap_range secret
  have HB0 := Lib.hid (Below.refl w.heap.size w)
  clear hrs hrse hk8 hse HRS0
  go_enter Tryz.func6, Tryz.ntmps6
  refine wp_seq_k ?_
  intro KC1 hKC1
  refine wp_regionW ?_
  refine wval (some 4) (.bool false) w (by kernel_rfl) (by kernel_rfl) (by kernel_rfl) ?_
  refine wnil (hKC1 _ _ (?_))
  clear hKC1
  refine wp_seq_k ?_
  intro KC2 hKC2
  refine wp_regionW ?_
  refine wval (some 18) (.int .i64 secret) w (by kernel_rfl) (by kernel_rfl) (by kernel_rfl) ?_
  refine wval (some 19) (.int .u64 (IntKind.u64.wrap secret)) w (by kernel_rfl) (by kernel_rfl) (by kernel_rfl) ?_
  refine wcall (some 20) 16 #[.int .u64 (IntKind.u64.wrap secret), .bool false, .int .i64 1] (by kernel_rfl) (by kernel_rfl) (by kernel_rfl) ?_
  refine (greeted_no2 (IntKind.u64.wrap secret) hwr.1 hwr.2 1 (by decide) _).mono ?_
  rintro e wz3 ⟨g0, A0, c0, xs0, y, rfl, hGV, hpl, _, _, _, _, hto, hYO, hypl, hbc⟩
  generalize sessI 99 (keyI (IntKind.u64.wrap secret) 1) = K at *
  obtain ⟨bA, oA, a0, ca0, b0, d0, rfl, hnote⟩ := hGV.nt1 hpl
  have HGV0 := Lib.hid hGV
  have HNT0 := Lib.hid hnote
  have HF0 := Lib.hid (show StrF 0 g0 xs0 K from ⟨hpl, fun p hp => by rw [hto p (by omega)]; exact ⟨rfl, by simp, rfl⟩⟩)
  have HYO := Lib.hid hYO
  have hyt : y.to_ = 1 := by simp only [ClM.pl, Prod.mk.injEq] at hypl; exact hypl.2.2.1
  have hbAl : bA < wz3.heap.size := World.block_lt_of_cell? _ _ (hnote 0 _ (nlit_0 _ _ _ _ _ _ _ _ _))
  have HBG0 := Lib.hid (Below.refl wz3.heap.size wz3)
  clear hGV hpl hto hYO hypl hnote
  refine ⟨_, rfl, ?_⟩
  have HF4 := Lib.hid (HB0.out.trans (hbc.mono HB0.out.size))
  clear hbc
  refine wval (some 17) (.tuple #[.agg (gcs g0 (some ⟨bA, oA, none⟩) 1 c0), .agg (clc y), .bool true]) wz3 (by kernel_rfl) (by kernel_rfl) (by kernel_rfl) ?_
  refine wval (some 21) (.agg (gcs g0 (some ⟨bA, oA, none⟩) 1 c0)) wz3 (by kernel_rfl) (by kernel_rfl) (by kernel_rfl) ?_
  refine wval (some 22) (.agg (clc y)) wz3 (by kernel_rfl) (by kernel_rfl) (by kernel_rfl) ?_
  refine wval (some 23) (.bool true) wz3 (by kernel_rfl) (by kernel_rfl) (by kernel_rfl) ?_
  refine wnew (some 5) 29 #[.int .u64 0, .int .i64 0, .int .i64 0, .slice none 0 0, .bool false, .int .i64 0, .int .i64 0, .bool false, .int .i64 0, .int .i64 0, .bool false, .int .i64 0, .int .i64 0, .bool false, .int .i64 0, .int .i64 0, .bool false, .int .i64 0] (fun q => .pointer (some ⟨q, 0, none⟩)) (by kernel_rfl) (by kernel_rfl) (by kernel_rfl) ?_
  intro wz6 g5 hg5 hBg5 hbg5
  have hlg5 : w.heap.size ≤ g5 := by rw [← hg5]; exact HF4.out.size
  have hBGlg5 : wz3.heap.size ≤ g5 := by rw [← hg5]; exact HBG0.out.size
  have HF7 := Lib.hid (HF4.out.trans (hbg5.mono HF4.out.size))
  clear HF4
  have HF8 := Lib.hid (HBG0.out.trans (hbg5.mono HBG0.out.size))
  have HKg5 := Lib.hid hBg5
  clear hBg5 hbg5
  refine wnew (some 6) 45 #[.int .i64 0, .int .i64 0, .int .u64 0, .slice none 0 0, .int .i64 0, .int .u64 0, .bool false, .int .i64 0, .slice none 0 0, .int .i64 0, .slice none 0 0, .slice none 0 0, .int .i64 0, .int .i64 0, .int .i64 0, .int .i64 0, .int .i64 0, .int .i64 0, .int .i64 0, .int .i64 0, .int .i64 0, .int .i64 0, .int .i64 0, .slice none 0 0, .bool false, .slice none 0 0, .int .i64 0, .int .i64 0, .bool false, .int .i64 0] (fun q => .pointer (some ⟨q, 0, none⟩)) (by kernel_rfl) (by kernel_rfl) (by kernel_rfl) ?_
  intro wz10 g9 hg9 hBg9 hbg9
  have hlg9 : w.heap.size ≤ g9 := by rw [← hg9]; exact HF7.out.size
  have hBGlg9 : wz3.heap.size ≤ g9 := by rw [← hg9]; exact HF8.out.size
  have HK11 := Lib.hid (HKg5.out.carry hbg9)
  clear HKg5
  have HF12 := Lib.hid (HF7.out.trans (hbg9.mono HF7.out.size))
  clear HF7
  have HF13 := Lib.hid (HF8.out.trans (hbg9.mono HF8.out.size))
  clear HF8
  have HKg9 := Lib.hid hBg9
  clear hBg9 hbg9
  refine wstoreP (by kernel_rfl) (by kernel_rfl) 29 (.tmp 5) (.tmp 21) (by kernel_rfl) g5 0 (by kernel_rfl) (gcs g0 (some ⟨bA, oA, none⟩) 1 c0) (by kernel_rfl) 29 #[.int .u64 0, .int .i64 0, .int .i64 0, .slice none 0 0, .bool false, .int .i64 0, .int .i64 0, .bool false, .int .i64 0, .int .i64 0, .bool false, .int .i64 0, .int .i64 0, .bool false, .int .i64 0, .int .i64 0, .bool false, .int .i64 0] HK11.out (by kernel_rfl) (Nat.le_of_eq (by kernel_rfl)) (gcs_one _ _ _ _) (gcs g0 (some ⟨bA, oA, none⟩) 1 c0) (splice_all _ _ (by kernel_rfl)) ?_
  intro wz14 hBwz14 hwwz14
  have HK15 := Lib.hid (HKg9.out.wr hwwz14 (Blk.neq HKg9.out HK11.out (by decide)))
  clear HKg9
  have HF16 := Lib.hid (hwwz14.trans_below HF12.out hlg5)
  clear HF12
  have HF17 := Lib.hid (hwwz14.trans_below HF13.out hBGlg5)
  clear HF13
  have HK18 := Lib.hid hBwz14
  clear HK11
  refine wstoreP (by kernel_rfl) (by kernel_rfl) 45 (.tmp 6) (.tmp 22) (by kernel_rfl) g9 0 (by kernel_rfl) (clc y) (by kernel_rfl) 45 #[.int .i64 0, .int .i64 0, .int .u64 0, .slice none 0 0, .int .i64 0, .int .u64 0, .bool false, .int .i64 0, .slice none 0 0, .int .i64 0, .slice none 0 0, .slice none 0 0, .int .i64 0, .int .i64 0, .int .i64 0, .int .i64 0, .int .i64 0, .int .i64 0, .int .i64 0, .int .i64 0, .int .i64 0, .int .i64 0, .int .i64 0, .slice none 0 0, .bool false, .slice none 0 0, .int .i64 0, .int .i64 0, .bool false, .int .i64 0] HK15.out (by kernel_rfl) (Nat.le_of_eq (by kernel_rfl)) (clc_one _) (clc y) (splice_all _ _ (by kernel_rfl)) ?_
  intro wz19 hBwz19 hwwz19
  have HK20 := Lib.hid (HK18.out.wr hwwz19 (Blk.neq HK18.out HK15.out (by decide)))
  clear HK18
  have HF21 := Lib.hid (hwwz19.trans_below HF16.out hlg9)
  clear HF16
  have HF22 := Lib.hid (hwwz19.trans_below HF17.out hBGlg9)
  clear HF17
  have HK23 := Lib.hid hBwz19
  clear HK15
  refine wval (some 7) (.bool true) wz19 (by kernel_rfl) (by kernel_rfl) (by kernel_rfl) ?_
  refine wnil (hKC2 _ _ (?_))
  clear hKC2
  refine wp_seq_k ?_
  intro KC24 hKC24
  refine wp_seq_k ?_
  intro KC25 hKC25
  refine wp_regionW ?_
  refine wval (some 24) (.bool true) wz19 (by kernel_rfl) (by kernel_rfl) (by kernel_rfl) ?_
  refine wval (some 25) (.bool false) wz19 (by kernel_rfl) (by kernel_rfl) (by kernel_rfl) ?_
  refine wnil (hKC25 _ _ (?_))
  clear hKC25
  refine wp_cond_false (by kernel_rfl) ?_
  refine wp_skip (hKC24 _ _ (?_))
  clear hKC24
  refine wp_seq_k ?_
  intro KC26 hKC26
  refine wp_regionW ?_
  refine wval (some 26) (.pointer (some ⟨g5, 3, none⟩)) wz19 (by kernel_rfl) (by kernel_rfl) (by kernel_rfl) ?_
  refine wload (some 27) (.slice (some ⟨bA, oA, none⟩) 1 c0) 24 (.tmp 26) g5 3 _ (by kernel_rfl) (by kernel_rfl) (by kernel_rfl) (by kernel_rfl) Tryz.underlying24 rfl (by rw [HK20.out.cell]; kernel_rfl) ?_
  refine widx (some 28) 24 (.tmp 27) (.const (.int .i64 0)) bA oA 1 c0 .i64 0 29 oA (by kernel_rfl) (by kernel_rfl) (by kernel_rfl) (by kernel_rfl) (by kernel_rfl) Tryz.underlying24 (by kernel_rfl) (by decide) (by decide) (by simp) ?_
  refine wloadR (some 29) (by kernel_rfl) (by kernel_rfl) 53 (.tmp 28) (by kernel_rfl) bA (oA) (by kernel_rfl) (nlit 1 7 1 K 0 a0 ca0 b0 d0) _ Tryz.underlying53 rfl (by kernel_rfl) (fun j v hj => cell_keep HF22.out (HNT0.out j v hj)) ?_
  refine wnew (some 8) 53 #[.int .i64 0, .int .i64 0, .int .i64 0, .int .u64 0, .bool false, .bool false, .int .i64 0, .slice none 0 0, .int .i64 0, .slice none 0 0, .slice none 0 0, .int .i64 0, .int .i64 0, .int .i64 0, .int .i64 0, .int .i64 0, .int .i64 0, .int .i64 0, .int .i64 0, .int .i64 0, .int .i64 0, .int .i64 0, .slice none 0 0, .bool false, .slice none 0 0, .int .i64 0, .int .i64 0, .bool false, .int .i64 0] (fun q => .pointer (some ⟨q, 0, none⟩)) (by kernel_rfl) (by kernel_rfl) (by kernel_rfl) ?_
  intro wz28 g27 hg27 hBg27 hbg27
  have hlg27 : w.heap.size ≤ g27 := by rw [← hg27]; exact HF21.out.size
  have hBGlg27 : wz3.heap.size ≤ g27 := by rw [← hg27]; exact HF22.out.size
  have HK29 := Lib.hid (HK20.out.carry hbg27)
  clear HK20
  have HK30 := Lib.hid (HK23.out.carry hbg27)
  clear HK23
  have HF31 := Lib.hid (HF21.out.trans (hbg27.mono HF21.out.size))
  clear HF21
  have HF32 := Lib.hid (HF22.out.trans (hbg27.mono HF22.out.size))
  clear HF22
  have HKg27 := Lib.hid hBg27
  clear hBg27 hbg27
  refine wstoreP (by kernel_rfl) (by kernel_rfl) 53 (.tmp 8) (.tmp 29) (by kernel_rfl) g27 0 (by kernel_rfl) (nlit 1 7 1 K 0 a0 ca0 b0 d0) (by kernel_rfl) 53 #[.int .i64 0, .int .i64 0, .int .i64 0, .int .u64 0, .bool false, .bool false, .int .i64 0, .slice none 0 0, .int .i64 0, .slice none 0 0, .slice none 0 0, .int .i64 0, .int .i64 0, .int .i64 0, .int .i64 0, .int .i64 0, .int .i64 0, .int .i64 0, .int .i64 0, .int .i64 0, .int .i64 0, .int .i64 0, .slice none 0 0, .bool false, .slice none 0 0, .int .i64 0, .int .i64 0, .bool false, .int .i64 0] HKg27.out (by kernel_rfl) (Nat.le_of_eq (by kernel_rfl)) (all_one (by kernel_rfl)) (nlit 1 7 1 K 0 a0 ca0 b0 d0) (splice_all _ _ (by kernel_rfl)) ?_
  intro wz33 hBwz33 hwwz33
  have HK34 := Lib.hid (HK29.out.wr hwwz33 (Blk.neq HK29.out HKg27.out (by decide)))
  clear HK29
  have HK35 := Lib.hid (HK30.out.wr hwwz33 (Blk.neq HK30.out HKg27.out (by decide)))
  clear HK30
  have HF36 := Lib.hid (hwwz33.trans_below HF31.out hlg27)
  clear HF31
  have HF37 := Lib.hid (hwwz33.trans_below HF32.out hBGlg27)
  clear HF32
  have HK38 := Lib.hid hBwz33
  clear HKg27
  refine wnil (hKC26 _ _ (?_))
  clear hKC26
  refine wp_seq_k ?_
  intro KC39 hKC39
  refine wp_seq_k ?_
  intro KC40 hKC40
  refine wp_regionW ?_
  refine wval (some 30) (.slice RA len cap) wz33 (by kernel_rfl) (by kernel_rfl) (by kernel_rfl) ?_
  refine wcall (some 31) 20 #[.slice RA len cap, .int .i64 8] (by kernel_rfl) (by kernel_rfl) (by kernel_rfl) ?_
  refine (HSOME.out _).mono ?_
  rintro e wz41 ⟨rfl, rfl⟩
  refine ⟨_, rfl, ?_⟩
  refine wval (some 32) (.int .i64 (k : Nat)) wz33 (by kernel_rfl) (by kernel_rfl) (by kernel_rfl) ?_
  refine wval (some 33) (.int .i64 0) wz33 (by kernel_rfl) (by kernel_rfl) (by kernel_rfl) ?_
  refine wnil (hKC40 _ _ (?_))
  clear hKC40
  refine wp_block ?_
  refine wp_loopI (fun n_ a_ w_ => ∃ (i : Nat) (g : GtD) (A : Option Addr) (c : Nat) (xs : List NtB) (u6_ : Nat → Value), n_ = k - i ∧ a_ = ⟨#[.int .i64 secret, .slice RA len cap, undef, undef, u6_ 4, .pointer (some ⟨g5, 0, none⟩), .pointer (some ⟨g9, 0, none⟩), .bool true, .pointer (some ⟨g27, 0, none⟩), undef, u6_ 10, u6_ 11, u6_ 12, u6_ 13, u6_ 14, u6_ 15, undef, .tuple #[.agg (gcs g0 (some ⟨bA, oA, none⟩) 1 c0), .agg (clc y), .bool true], .int .i64 secret, .int .u64 (IntKind.u64.wrap secret), .tuple #[.agg (gcs g0 (some ⟨bA, oA, none⟩) 1 c0), .agg (clc y), .bool true], .agg (gcs g0 (some ⟨bA, oA, none⟩) 1 c0), .agg (clc y), .bool true, .bool true, .bool false, .pointer (some ⟨g5, 3, none⟩), .slice (some ⟨bA, oA, none⟩) 1 c0, .pointer (some ⟨bA, oA, none⟩), .agg (nlit 1 7 1 K 0 a0 ca0 b0 d0), .slice RA len cap, .slice RA k cap, .int .i64 (k : Nat), .int .i64 (i : Nat), u6_ 34, u6_ 35, u6_ 36, u6_ 37, u6_ 38, u6_ 39, u6_ 40, u6_ 41, u6_ 42, u6_ 43, u6_ 44, u6_ 45, u6_ 46, u6_ 47, u6_ 48, u6_ 49, u6_ 50, u6_ 51, u6_ 52, u6_ 53, u6_ 54, u6_ 55, u6_ 56, u6_ 57, u6_ 58, u6_ 59, u6_ 60, u6_ 61, u6_ 62, u6_ 63, u6_ 64, u6_ 65, u6_ 66, u6_ 67, u6_ 68, u6_ 69, u6_ 70, u6_ 71, u6_ 72, u6_ 73, u6_ 74, u6_ 75, u6_ 76, u6_ 77, u6_ 78, u6_ 79, u6_ 80, u6_ 81, u6_ 82, u6_ 83, u6_ 84, undef, undef, undef, undef, undef, undef, undef, undef, undef, undef, undef, undef, undef, undef, undef, undef, undef, undef, undef, undef, undef, undef, undef, undef, undef, undef, undef, undef, undef, undef, undef, undef, undef, undef, undef, undef, undef, undef, undef, undef, undef, undef, undef, undef, undef, undef, undef, undef, undef, undef, undef, undef, undef, undef, undef, undef, undef, undef, undef, undef, undef, undef], []⟩ ∧ (i ≤ k) ∧ (Blk w_ g5 29 (gcs g A 1 c)) ∧ (Blk w_ g9 45 (clc y)) ∧ (Blk w_ g27 53 (nlit 1 7 1 K 0 a0 ca0 b0 d0)) ∧ (GtV w_ g A 1 c xs) ∧ (∀ a, A = some a → a.block ≠ g5) ∧ (StrF i g xs K) ∧ (Below w.heap.size w w_)) _ ⟨0, g0, (some ⟨bA, oA, none⟩), c0, xs0, (fun n_ => (#[undef, undef, undef, undef, .bool false, undef, undef, undef, undef, undef, undef, undef, undef, undef, undef, undef, undef, undef, undef, undef, undef, undef, undef, undef, undef, undef, undef, undef, undef, undef, undef, undef, undef, undef, undef, undef, undef, undef, undef, undef, undef, undef, undef, undef, undef, undef, undef, undef, undef, undef, undef, undef, undef, undef, undef, undef, undef, undef, undef, undef, undef, undef, undef, undef, undef, undef, undef, undef, undef, undef, undef, undef, undef, undef, undef, undef, undef, undef, undef, undef, undef, undef, undef, undef, undef, undef, undef, undef, undef, undef, undef, undef, undef, undef, undef, undef, undef, undef, undef, undef, undef, undef, undef, undef, undef, undef, undef, undef, undef, undef, undef, undef, undef, undef, undef, undef, undef, undef, undef, undef, undef, undef, undef, undef, undef, undef, undef, undef, undef, undef, undef, undef, undef, undef, undef, undef, undef, undef, undef, undef, undef, undef, undef, undef, undef, undef, undef] : Array Value).getD n_ undef), rfl, (by kernel_rfl), Nat.zero_le _, HK34.out, HK35.out, HK38.out, (HGV0.out.below HF37.out), (fun a ha => by injection ha with ha; subst ha; exact Nat.ne_of_lt (Nat.lt_of_lt_of_le hbAl hBGlg5)), HF0.out, HF36.out⟩ ?_
  rintro n_ a_ wr42 ⟨i, g, A, c, xs, u6_, rfl, rfl, hik, h5, h6, h8, hGV, hA, hF, hB⟩
  have H5 := Lib.hid h5
  have H6 := Lib.hid h6
  have H8 := Lib.hid h8
  have HGV := Lib.hid hGV
  have HF := Lib.hid hF
  have HB := Lib.hid hB
  have HA := Lib.hid hA
  clear h5 h6 h8 hGV hF hB hA
  have HAL := Lib.hid (show ∀ a, A = some a → a.block < wr42.heap.size from by obtain ⟨bZ, oZ, _, _, _, _, e, hn⟩ := HGV.out.nt1 HF.out.pl; intro a ha; rw [e] at ha; injection ha with ha; subst ha; exact World.block_lt_of_cell? _ _ (hn 0 _ (nlit_0 _ _ _ _ _ _ _ _ _)))
  have HBL := Lib.hid (Below.refl wr42.heap.size wr42)
  refine wp_seq_k ?_
  intro KC43 hKC43
  by_cases hlt : i < k
  · skip
    obtain ⟨bR, oR, rfl, hcell⟩ := (HRS.out.keep HB.out).at_ (by omega)
    obtain ⟨r0, r1, r2, r3⟩ := hcell i hlt
    have hro := HRS.out.2.2.2.2 i hlt
    generalize rs.getD i rawNone = r at *
    obtain ⟨⟨_, _⟩, ⟨ra0, ra1⟩, ⟨rb0, rb1⟩, hrt⟩ := id hro
    unfold maxLen at hrt
    obtain ⟨f, okf, cf⟩ := connFrame_any r hro
    have CFR := Lib.hid cf
    have OKF := Lib.hid okf
    obtain ⟨m, HM, hm⟩ := mod_nat r.b 60 (by decide)
    have hm : m < 60 := by omega
    obtain ⟨q, HQ, hq⟩ := mod_nat r.a 2 (by decide)
    have hq : q < 2 := by omega
    obtain ⟨m3, HM3, hm3⟩ := mod_nat r.kind 3 (by decide)
    have hm3 : m3 < 3 := by omega
    have R4 := Lib.hid (cells4 r0 r1 r2 r3)
    have hwR := HB.out
    obtain ⟨wR, hwRe⟩ : ∃ y, y = wr42 := ⟨_, rfl⟩
    clear hcell r0 r1 r2 r3 cf okf hwR hwRe
    refine wp_regionW ?_
    refine wvalE (some 34) (.bool (decide (((i : Nat) : Int) < ((k : Nat) : Int)))) (.bool true) wr42 (by simp [hlt]) (by kernel_rfl) (by kernel_rfl) (by kernel_rfl) ?_
    refine wnil (hKC43 _ _ (?_))
    clear hKC43
    refine wp_seq_k ?_
    intro KC44 hKC44
    refine wp_cond_true (by kernel_rfl) ?_
    refine wp_skip (hKC44 _ _ (?_))
    clear hKC44
    refine wp_seq_k ?_
    intro KC45 hKC45
    refine wp_block ?_
    refine wp_seq_k ?_
    intro KC46 hKC46
    refine wp_regionW ?_
    refine widx (some 35) 55 (.tmp 31) (.tmp 33) bR oR k cap .i64 (i : Nat) 4 (oR + i * 4) (by kernel_rfl) (by kernel_rfl) (by kernel_rfl) (by kernel_rfl) (by kernel_rfl) Tryz.underlying55 (by kernel_rfl) (by omega) (by omega) (by simp) ?_
    refine wloadR (some 36) (by kernel_rfl) (by kernel_rfl) 59 (.tmp 35) (by kernel_rfl) bR (oR + i * 4) (by kernel_rfl) #[.int .i64 r.kind, .int .i64 r.a, .int .i64 r.b, .string r.text] _ Tryz.underlying59 rfl (by kernel_rfl) R4.out ?_
    refine wnew (some 10) 59 #[.int .i64 0, .int .i64 0, .int .i64 0, .string ByteArray.empty] (fun q => .pointer (some ⟨q, 0, none⟩)) (by kernel_rfl) (by kernel_rfl) (by kernel_rfl) ?_
    intro wz48 g47 hg47 hBg47 hbg47
    have hlg47 : w.heap.size ≤ g47 := by rw [← hg47]; exact HB.out.size
    have hBLlg47 : wr42.heap.size ≤ g47 := by rw [← hg47]; exact HBL.out.size
    have HK49 := Lib.hid (H5.out.carry hbg47)
    have HK50 := Lib.hid (H6.out.carry hbg47)
    have HK51 := Lib.hid (H8.out.carry hbg47)
    have HF52 := Lib.hid (HB.out.trans (hbg47.mono HB.out.size))
    have HF53 := Lib.hid (HBL.out.trans (hbg47.mono HBL.out.size))
    have HF54 := Lib.hid (HGV.out.below hbg47)
    have HKg47 := Lib.hid hBg47
    clear hBg47 hbg47
    refine wstoreP (by kernel_rfl) (by kernel_rfl) 59 (.tmp 10) (.tmp 36) (by kernel_rfl) g47 0 (by kernel_rfl) #[.int .i64 r.kind, .int .i64 r.a, .int .i64 r.b, .string r.text] (by kernel_rfl) 59 #[.int .i64 0, .int .i64 0, .int .i64 0, .string ByteArray.empty] HKg47.out (by kernel_rfl) (Nat.le_of_eq (by kernel_rfl)) (all_one (by kernel_rfl)) #[.int .i64 r.kind, .int .i64 r.a, .int .i64 r.b, .string r.text] (splice_all _ _ (by kernel_rfl)) ?_
    intro wz55 hBwz55 hwwz55
    have HK56 := Lib.hid (HK49.out.wr hwwz55 (Blk.neq HK49.out HKg47.out (by decide)))
    clear HK49
    have HK57 := Lib.hid (HK50.out.wr hwwz55 (Blk.neq HK50.out HKg47.out (by decide)))
    clear HK50
    have HK58 := Lib.hid (HK51.out.wr hwwz55 (Blk.neq HK51.out HKg47.out (by decide)))
    clear HK51
    have HF59 := Lib.hid (hwwz55.trans_below HF52.out hlg47)
    clear HF52
    have HF60 := Lib.hid (hwwz55.trans_below HF53.out hBLlg47)
    clear HF53
    have HF61 := Lib.hid (HF54.out.wrS hwwz55 (fun a ha => Nat.ne_of_lt (Nat.lt_of_lt_of_le (HAL.out a ha) hBLlg47)))
    clear HF54
    have HK62 := Lib.hid hBwz55
    clear HKg47
    refine wnil (hKC46 _ _ (?_))
    clear hKC46
    refine wp_seq_k ?_
    intro KC63 hKC63
    refine wp_flow (fun k => decide (k < 16)) (fun k => k == 2 || k == 8 || k == 10 || k == 11 || k == 12) 147 [0, 1, 2, 3, 4, 5, 6, 7, 8, 9, 10, 11, 12, 13, 14, 15] (fun w' => Below wz55.heap.size wz55 w') (fun k a v w' => (k = 2 → v = .int .u64 (mixI y.key)) ∧ (k = 8 → v = .int .i64 (m : Nat)) ∧ (k = 10 → ∃ A c B d, v = .agg #[.int .i64 (f.kind : Nat), .int .i64 (f.id : Nat), .int .i64 (f.off : Nat), .bool f.fin, .int .i64 (f.code : Nat), .slice A f.rngs.length c, .slice B f.data.length d] ∧ FrX w' ⟨f, A, c, B, d⟩) ∧ (k = 11 → ∃ g A c B d, v = .slice (some ⟨g, 0, none⟩) 1 1 ∧ Blk w' g 68 #[.int .i64 (f.kind : Nat), .int .i64 (f.id : Nat), .int .i64 (f.off : Nat), .bool f.fin, .int .i64 (f.code : Nat), .slice A f.rngs.length c, .slice B f.data.length d] ∧ FrX w' ⟨f, A, c, B, d⟩) ∧ (k = 12 → ∃ A k c bs e, v = .tuple #[.slice A k c, .int .i64 e] ∧ ByS w' A k c bs)) (by kernel_rfl) ?hflB ?hpuB ?hksB (fun _ _ _ _ _ h => h) (by kernel_rfl) ?hst ?hC ?_
    case hflB => kernel_rfl
    case hpuB => kernel_rfl
    case hksB => kernel_rfl
    case hst => exact ⟨fun w0 w1 h1 hb => h1.trans (hb.mono h1.size), fun k a v w0 w1 hW hb => ⟨fun e => (fun hp => hp) (hW.1 e), fun e => (fun hp => hp) (hW.2.1 e), fun e => (fun hp => by obtain ⟨A, c, B, d, e1, e2⟩ := hp; exact ⟨A, c, B, d, e1, e2.below hb⟩) (hW.2.2.1 e), fun e => (fun hp => by obtain ⟨g, A, c, B, d, e1, e2, e3⟩ := hp; exact ⟨g, A, c, B, d, e1, e2.carry hb, e3.below hb⟩) (hW.2.2.2.1 e), fun e => (fun hp => by obtain ⟨A, k, c, bs, e, e1, e2⟩ := hp; exact ⟨A, k, c, bs, e, e1, e2.below hb⟩) (hW.2.2.2.2 e)⟩, fun k a b v w0 _ h => h⟩
    case hC => exact (Below.refl _ _).drew
    refine fq 38 (.pointer (some ⟨g9, 5, none⟩)) (by kernel_rfl) (by kernel_rfl) (by kernel_rfl) (by kernel_rfl) (fun w => (by kernel_rfl)) ?_
    refine fq1 39 (.int .u64 y.key) 23 (.tmp 38) g9 5 _ (by kernel_rfl) (by kernel_rfl) (by kernel_rfl) (by kernel_rfl) (by kernel_rfl) (by kernel_rfl) Tryz.underlying23 rfl (fun w hw => by rw [(HK57.out.carry hw.1).cell]; kernel_rfl) ?_
    refine fcall 40 25 #[.int .u64 y.key, .bool true] (by kernel_rfl) (by kernel_rfl) (by kernel_rfl) (by kernel_rfl) (fun w => (by kernel_rfl)) (fun w hw => (way_true y.key HYO.out.k0 HYO.out.k1 w).mono ?hx2_40) ?_
    case hx2_40 =>
      rintro e w' ⟨rfl, rfl⟩
      exact ⟨_, rfl, ⟨fun _ => rfl, fun e => absurd e (by decide), fun e => absurd e (by decide), fun e => absurd e (by decide), fun e => absurd e (by decide)⟩, hw.1, Below.refl _ _⟩
    rintro v ⟨w', hw', hW⟩
    obtain rfl := hW.1 rfl
    clear  hW hw' w'
    refine fq 41 (.pointer (some ⟨g9, 4, none⟩)) (by kernel_rfl) (by kernel_rfl) (by kernel_rfl) (by kernel_rfl) (fun w => (by kernel_rfl)) ?_
    refine fq1 42 (.int .i64 (y.to_ : Nat)) 3 (.tmp 41) g9 4 _ (by kernel_rfl) (by kernel_rfl) (by kernel_rfl) (by kernel_rfl) (by kernel_rfl) (by kernel_rfl) Tryz.underlying3 rfl (fun w hw => by rw [(HK57.out.carry hw.1).cell]; kernel_rfl) ?_
    refine fq 43 (.agg #[.int .i64 2, .int .i64 (y.to_ : Nat), .int .i64 0, .slice none 0 0, .int .i64 0, .int .i64 0]) (by kernel_rfl) (by kernel_rfl) (by kernel_rfl) (by kernel_rfl) (fun w => (by kernel_rfl)) ?_
    refine fq 44 (.pointer (some ⟨g47, 2, none⟩)) (by kernel_rfl) (by kernel_rfl) (by kernel_rfl) (by kernel_rfl) (fun w => (by kernel_rfl)) ?_
    refine fq1 45 (.int .i64 r.b) 3 (.tmp 44) g47 2 _ (by kernel_rfl) (by kernel_rfl) (by kernel_rfl) (by kernel_rfl) (by kernel_rfl) (by kernel_rfl) Tryz.underlying3 rfl (fun w hw => by rw [(HK62.out.carry hw.1).cell]; kernel_rfl) ?_
    refine fcall 46 15 #[.int .i64 r.b, .int .i64 60] (by kernel_rfl) (by kernel_rfl) (by kernel_rfl) (by kernel_rfl) (fun w => (by kernel_rfl)) (fun w hw => (picked_at r.b 60 m rb0 rb1 (by decide) (by decide) HM w).mono ?hx8_46) ?_
    case hx8_46 =>
      rintro e w' ⟨rfl, rfl⟩
      exact ⟨_, rfl, ⟨fun e => absurd e (by decide), fun _ => rfl, fun e => absurd e (by decide), fun e => absurd e (by decide), fun e => absurd e (by decide)⟩, hw.1, Below.refl _ _⟩
    rintro v ⟨w', hw', hW⟩
    obtain rfl := hW.2.1 rfl
    clear  hW hw' w'
    refine fqR 47 #[.int .i64 r.kind, .int .i64 r.a, .int .i64 r.b, .string r.text] 59 (.tmp 10) g47 0 _ (by kernel_rfl) (by kernel_rfl) (by kernel_rfl) (by kernel_rfl) (by kernel_rfl) (by kernel_rfl) Tryz.underlying59 rfl (by kernel_rfl) (fun w hw => (HK62.out.carry hw.1).whole) ?_
    refine fcall 48 26 #[.agg #[.int .i64 r.kind, .int .i64 r.a, .int .i64 r.b, .string r.text]] (by kernel_rfl) (by kernel_rfl) (by kernel_rfl) (by kernel_rfl) (fun w => (by kernel_rfl)) (fun w hw => (CFR.out w).mono ?hx10_48) ?_
    case hx10_48 =>
      rintro e w' ⟨A1, c1, B1, d1, rfl, hA1, hB1, h11, h12, h13, h14, hb, _, _⟩
      exact ⟨_, rfl, ⟨fun e => absurd e (by decide), fun e => absurd e (by decide), fun _ => ⟨A1, c1, B1, d1, rfl, hA1, hB1, h11, h12, h13, h14⟩, fun e => absurd e (by decide), fun e => absurd e (by decide)⟩, hw.1.trans (hb.mono hw.1.size), hb⟩
    rintro v ⟨w', hw', hW⟩
    obtain ⟨Af, cf, Bf, df, rfl, h4⟩ := hW.2.2.1 rfl
    clear h4 hW hw' w'
    refine fnew 49 (fun w => .slice (some ⟨w.heap.size, 0, none⟩) 1 1) (fun w => w.alloc (.cells #[.int .i64 (f.kind : Nat), .int .i64 (f.id : Nat), .int .i64 (f.off : Nat), .bool f.fin, .int .i64 (f.code : Nat), .slice Af f.rngs.length cf, .slice Bf f.data.length df] 68)) (by kernel_rfl) (by kernel_rfl) (by kernel_rfl) (by kernel_rfl) (fun w => (by kernel_rfl)) (fun w hw => ?hx11) ?_
    case hx11 =>
      obtain ⟨A_, c_, B_, d_, e2, hFX⟩ := (hw.2 _ List.mem_cons_self (by kernel_rfl)).2.2.1 rfl
      obtain ⟨⟨rfl, rfl⟩, rfl, rfl⟩ : (Af = A_ ∧ cf = c_) ∧ Bf = B_ ∧ df = d_ := by injection e2 with e2; simpa using e2
      exact ⟨⟨fun e => absurd e (by decide), fun e => absurd e (by decide), fun e => absurd e (by decide), fun _ => ⟨w.heap.size, Af, cf, Bf, df, rfl, Blk.new _ _ _, hFX.below ((Below.refl _ _).alloc (Nat.le_refl _) _)⟩, fun e => absurd e (by decide)⟩, hw.1.alloc hw.1.size _, (Below.refl _ _).alloc (Nat.le_refl _) _⟩
    rintro v ⟨w', hw', hWv⟩
    obtain ⟨gS, _, _, _, _, rfl, h41, h42⟩ := hWv.2.2.2.1 rfl
    clear h41 h42 hWv hw' w'
    refine fcall 50 23 #[.int .u64 (mixI y.key), .agg #[.int .i64 2, .int .i64 (y.to_ : Nat), .int .i64 0, .slice none 0 0, .int .i64 0, .int .i64 0], .int .i64 (m : Nat), .int .i64 (-1), .slice (some ⟨gS, 0, none⟩) 1 1] (by kernel_rfl) (by kernel_rfl) (by kernel_rfl) (by kernel_rfl) (fun w => (by kernel_rfl)) (fun w hw => ?hxP) ?_
    case hxP =>
      obtain ⟨g_, A_, c_, B_, d_, e_, hBf, hFX⟩ := (hw.2 _ List.mem_cons_self (by kernel_rfl)).2.2.2.1 rfl
      obtain rfl : gS = g_ := by injection e_ with e_; simpa using e_
      refine (packet_any (mixI y.key) (mixI_range _).1 (mixI_range _).2 ⟨2, y.to_, 0, [], 0, 0⟩ ⟨.inr rfl, by simp, HYO.out.to1, by simp, fun _ => ⟨rfl, rfl⟩⟩ none 0 0 rfl 0 0 m (by omega) (-1) (by decide) (by omega) (by omega) (some ⟨gS, 0, none⟩) 1 1 [⟨f, A_, c_, B_, d_⟩] rfl (by decide) (by decide) (by decide) (fun x hx => by rw [List.mem_singleton.1 hx]; exact OKF.out) w Rd.nil ⟨Blk.rdF hBf, fun x hx => by rw [List.mem_singleton.1 hx]; exact hFX⟩).mono ?_
      rintro e w' ⟨h1, hb⟩
      rcases h1 with ⟨_, rfl⟩ | ⟨h400, A, k, c, rfl, hk, hO⟩
      · exact ⟨_, rfl, ⟨fun e => absurd e (by decide), fun e => absurd e (by decide), fun e => absurd e (by decide), fun e => absurd e (by decide), fun _ => ⟨none, 0, 0, [], 1, rfl, ⟨Rd.nil, rfl, Nat.le_refl _, by decide, by decide, strange_nil⟩⟩⟩, hw.1.trans (hb.mono hw.1.size), hb⟩
      · have hcap := hO.cap
        rw [hk] at hcap
        exact ⟨_, rfl, ⟨fun e => absurd e (by decide), fun e => absurd e (by decide), fun e => absurd e (by decide), fun e => absurd e (by decide), fun _ => ⟨A, k, c, _, 0, rfl, ⟨hO.rd, hk, hcap.1, hcap.2, by omega, strange_pkt _ _ _ _ HYO.out.to1 (cutK_le _).1 (cutK_le _).2 _⟩⟩⟩, hw.1.trans (hb.mono hw.1.size), hb⟩
    rintro v ⟨w', hw', hWv⟩
    obtain ⟨Ab, kb, cb, bs, eb, rfl, hby⟩ := hWv.2.2.2.2 rfl
    clear hby hWv hw' w' bs
    refine fq 37 (.tuple #[.slice Ab kb cb, .int .i64 eb]) (by kernel_rfl) (by kernel_rfl) (by kernel_rfl) (by kernel_rfl) (fun w => (by kernel_rfl)) ?_
    refine fq 51 (.slice Ab kb cb) (by kernel_rfl) (by kernel_rfl) (by kernel_rfl) (by kernel_rfl) (fun w => (by kernel_rfl)) ?_
    refine fq 52 (.int .i64 eb) (by kernel_rfl) (by kernel_rfl) (by kernel_rfl) (by kernel_rfl) (fun w => (by kernel_rfl)) ?_
    refine fend [16, 17] (by kernel_rfl) (by kernel_rfl) ?_
    intro wf64 hwwf64 hF
    obtain ⟨A_, k_, c_, bs, e_, e2, hBY⟩ := (hF _ List.mem_cons_self).2.2.2.2 rfl
    obtain ⟨⟨rfl, rfl, rfl⟩, rfl⟩ : (Ab = A_ ∧ kb = k_ ∧ cb = c_) ∧ eb = e_ := by injection e2 with e2; simpa using e2
    have HBY := Lib.hid hBY
    clear e2 hBY
    clear hF
    have HK65 := Lib.hid (HK56.out.carry hwwf64)
    clear HK56
    have HK66 := Lib.hid (HK57.out.carry hwwf64)
    clear HK57
    have HK67 := Lib.hid (HK58.out.carry hwwf64)
    clear HK58
    have HK68 := Lib.hid (HK62.out.carry hwwf64)
    clear HK62
    have HF69 := Lib.hid (HF59.out.trans (hwwf64.mono HF59.out.size))
    clear HF59
    have HF70 := Lib.hid (HF60.out.trans (hwwf64.mono HF60.out.size))
    clear HF60
    have HF71 := Lib.hid (HF61.out.below hwwf64)
    clear HF61
    refine tval (some 11) (.slice Ab kb cb) wf64 (by kernel_rfl) (by kernel_rfl) (by kernel_rfl) ?_
    refine tval (some 12) (.int .i64 eb) wf64 (by kernel_rfl) (by kernel_rfl) (by kernel_rfl) ?_
    refine tend (hKC63 _ _ (?_))
    clear hKC63
    refine wp_seq_k ?_
    intro KC72 hKC72
    refine wp_seq_k ?_
    intro KC73 hKC73
    by_cases h30 : m3 = 0
    · skip
      refine wp_regionW ?_
      refine wval (some 53) (.pointer (some ⟨g47, 0, none⟩)) wf64 (by kernel_rfl) (by kernel_rfl) (by kernel_rfl) ?_
      refine wload (some 54) (.int .i64 r.kind) 3 (.tmp 53) g47 0 _ (by kernel_rfl) (by kernel_rfl) (by kernel_rfl) (by kernel_rfl) Tryz.underlying3 rfl (by rw [HK68.out.cell]; kernel_rfl) ?_
      refine wcall (some 55) 15 #[.int .i64 r.kind, .int .i64 3] (by kernel_rfl) (by kernel_rfl) (by kernel_rfl) ?_
      refine (picked_at r.kind 3 m3 (by omega) (by omega) (by decide) (by decide) HM3 _).mono ?_
      rintro e wz74 ⟨rfl, rfl⟩
      refine ⟨_, rfl, ?_⟩
      refine wvalE (some 56) (.bool (decide (((m3 : Nat) : Int) = 0))) (.bool true) wf64 (by simp [h30]) (by kernel_rfl) (by kernel_rfl) (by kernel_rfl) ?_
      refine wnil (hKC73 _ _ (?_))
      clear hKC73
      refine wp_cond_true (by kernel_rfl) ?_
      refine wp_flow (fun k => decide (k < 7)) (fun k => k == 3 || k == 6) 147 [0, 1, 2, 3, 4, 5, 6] (fun w' => Below wf64.heap.size wf64 w') (fun k a v w' => (k = 3 → ∃ g, v = .slice (some ⟨g, 0, none⟩) 2 2 ∧ wf64.heap.size ≤ g ∧ Blk w' g 5 #[.int .u8 64, .int .u8 1]) ∧ (k = 6 → v = .string (cutS r.text 300))) (by kernel_rfl) ?hflB ?hpuB ?hksB (fun _ _ _ _ _ h => h) (by kernel_rfl) ?hst ?hC ?_
      case hflB => kernel_rfl
      case hpuB => kernel_rfl
      case hksB => kernel_rfl
      case hst => exact ⟨fun w0 w1 h1 hb => h1.trans (hb.mono h1.size), fun k a v w0 w1 hW hb => ⟨fun e => (fun hp => by obtain ⟨g, e1, e0, e2⟩ := hp; exact ⟨g, e1, e0, e2.carry hb⟩) (hW.1 e), fun e => (fun hp => hp) (hW.2 e)⟩, fun k a b v w0 _ h => h⟩
      case hC => exact (Below.refl _ _).drew
      refine fq 57 (.pointer (some ⟨g9, 4, none⟩)) (by kernel_rfl) (by kernel_rfl) (by kernel_rfl) (by kernel_rfl) (fun w => (by kernel_rfl)) ?_
      refine fq1 58 (.int .i64 (y.to_ : Nat)) 3 (.tmp 57) g9 4 _ (by kernel_rfl) (by kernel_rfl) (by kernel_rfl) (by kernel_rfl) (by kernel_rfl) (by kernel_rfl) Tryz.underlying3 rfl (fun w hw => by rw [(HK66.out.carry hw.1).cell]; kernel_rfl) ?_
      refine fqe 59 (.int .u8 (IntKind.u8.wrap (y.to_ : Nat))) (.int .u8 1) (by rw [hyt]; rfl) (by kernel_rfl) (by kernel_rfl) (by kernel_rfl) (by kernel_rfl) (fun w => (by kernel_rfl)) ?_
      refine fnew 60 (fun w => .slice (some ⟨w.heap.size, 0, none⟩) 2 2) (fun w => w.alloc (.cells #[.int .u8 64, .int .u8 1] 5)) (by kernel_rfl) (by kernel_rfl) (by kernel_rfl) (by kernel_rfl) (fun w => (by kernel_rfl)) (fun w hw => ⟨⟨fun _ => ⟨w.heap.size, rfl, hw.1.size, Blk.new _ _ _⟩, fun e => absurd e (by decide)⟩, hw.1.alloc hw.1.size _, (Below.refl _ _).alloc (Nat.le_refl _) _⟩) ?_
      rintro v ⟨w', hw', hW⟩
      obtain ⟨g75, rfl, hlog75, h4⟩ := hW.1 rfl
      clear h4 hW hw' w'
      refine fq 61 (.pointer (some ⟨g47, 3, none⟩)) (by kernel_rfl) (by kernel_rfl) (by kernel_rfl) (by kernel_rfl) (fun w => (by kernel_rfl)) ?_
      refine fq1 62 (.string r.text) 9 (.tmp 61) g47 3 _ (by kernel_rfl) (by kernel_rfl) (by kernel_rfl) (by kernel_rfl) (by kernel_rfl) (by kernel_rfl) Tryz.underlying9 rfl (fun w hw => by rw [(HK68.out.carry hw.1).cell]; kernel_rfl) ?_
      refine fcall 63 29 #[.string r.text, .int .i64 300] (by kernel_rfl) (by kernel_rfl) (by kernel_rfl) (by kernel_rfl) (fun w => (by kernel_rfl)) (fun w hw => (cutS_any r.text 300 (by omega) (by decide) w).mono ?hx6_63) ?_
      case hx6_63 =>
        rintro e w' ⟨rfl, rfl⟩
        exact ⟨_, rfl, ⟨fun e => absurd e (by decide), fun _ => rfl⟩, hw.1, Below.refl _ _⟩
      rintro v ⟨w', hw', hW⟩
      obtain rfl := hW.2 rfl
      clear  hW hw' w'
      refine fend [7, 8] (by kernel_rfl) (by kernel_rfl) ?_
      intro wf76 hwwf76 hF
      obtain ⟨g_, e_, _, hNg75⟩ := (hF _ (List.mem_cons_of_mem _ List.mem_cons_self)).1 rfl
      obtain rfl : g75 = g_ := by injection e_ with e_; simpa using e_
      clear e_
      clear hF
      have hlg75 : w.heap.size ≤ g75 := Nat.le_trans HF69.out.size hlog75
      have hBLlg75 : wr42.heap.size ≤ g75 := Nat.le_trans HF70.out.size hlog75
      have HK77 := Lib.hid (HK65.out.carry hwwf76)
      have HK78 := Lib.hid (HK66.out.carry hwwf76)
      have HK79 := Lib.hid (HK67.out.carry hwwf76)
      have HK80 := Lib.hid (HK68.out.carry hwwf76)
      have HF81 := Lib.hid (HF69.out.trans (hwwf76.mono HF69.out.size))
      have HF82 := Lib.hid (HF70.out.trans (hwwf76.mono HF70.out.size))
      have HF83 := Lib.hid (HF71.out.below hwwf76)
      have HKg75 := Lib.hid hNg75
      clear hNg75
      have hcl : (cutS r.text 300).size ≤ 300 := cutS_le _ _
      refine tappS 64 (by kernel_rfl) (by kernel_rfl) (.tmp 60) (.tmp 63) _ _ (by kernel_rfl) wf64.heap.size 5 Tryz.underlying30 Tryz.underlying9 u8_infoQ (some ⟨g75, 0, none⟩) 2 2 [64, 1] (by kernel_rfl) rfl (own64 HKg75.out hlog75) (cutS r.text 300) (by kernel_rfl) ([64, 1] ++ bts (cutS r.text 300)) rfl (2 + (cutS r.text 300).size) rfl (by omega) hwwf76.size ?_
      intro A3 c3 wz84 hO3 hc3 hm3_ hb3
      have hb13 := hwwf76.trans hb3
      have HK85 := Lib.hid (HK65.out.carry hb13)
      have HK86 := Lib.hid (HK66.out.carry hb13)
      have HK87 := Lib.hid (HK67.out.carry hb13)
      have HK88 := Lib.hid (HK68.out.carry hb13)
      have HF89 := Lib.hid (HF69.out.trans (hb13.mono HF69.out.size))
      have HF90 := Lib.hid (HF70.out.trans (hb13.mono HF70.out.size))
      have HF91 := Lib.hid (HF71.out.below hb13)
      have HBY3 := Lib.hid (show ByS wz84 A3 (2 + (cutS r.text 300).size) c3 ([64, 1] ++ bts (cutS r.text 300)) from ⟨hO3.rd, by simp [bts_len]; omega, hc3, hm3_, by omega, strange_64 64 _ rfl⟩)
      clear hO3 hb3
      refine tval (some 11) (.slice A3 (2 + (cutS r.text 300).size) c3) wz84 (by kernel_rfl) (by kernel_rfl) (by kernel_rfl) ?_
      refine tend (hKC72 _ _ (?_))
      clear hKC72
      refine wp_seq_k ?_
      intro KC92 hKC92
      have hsq : IntKind.i64.wrap ((2 : Int) + (q : Nat)) = ((2 + q : Nat) : Int) := by rw [IntKind.wrap_i64]; omega
      have hty := HF.out.ty (2 + q) (by omega)
      have hi8 : i < 8 := by omega
      refine wp_flow (fun k => decide (k < 12)) (fun k => k == 3 || k == 6 || k == 11) 147 [0, 1, 2, 3, 4, 5, 6, 7, 8, 9, 10, 11] (fun w' => Below wz84.heap.size wz84 w') (fun k a v w' => (k = 3 → v = .int .i64 (q : Nat)) ∧ (k = 6 → ∃ A2 c2 ys O2 co2 E, v = .tuple #[.agg (gcs (g.set (2 + q) (false, (g.t (2 + q)).2.1 + ((2 + (cutS r.text 300).size) : Nat), (g.t (2 + q)).2.2)) A2 1 c2), .slice O2 0 co2, .int .i64 E] ∧ ¬ E = 0 ∧ GtV w' (g.set (2 + q) (false, (g.t (2 + q)).2.1 + ((2 + (cutS r.text 300).size) : Nat), (g.t (2 + q)).2.2)) A2 1 c2 ys ∧ ys.map NtB.pl = xs.map NtB.pl ∧ OwnX ntc 29 w' 0 53 A2 c2 ys) ∧ (k = 11 → ∃ g, v = .pointer (some ⟨g, 0, none⟩) ∧ wz84.heap.size ≤ g ∧ Blk w' g 29 #[.int .u64 0, .int .i64 0, .int .i64 0, .slice none 0 0, .bool false, .int .i64 0, .int .i64 0, .bool false, .int .i64 0, .int .i64 0, .bool false, .int .i64 0, .int .i64 0, .bool false, .int .i64 0, .int .i64 0, .bool false, .int .i64 0])) (by kernel_rfl) ?hflB ?hpuB ?hksB (fun _ _ _ _ _ h => h) (by kernel_rfl) ?hst ?hC ?_
      case hflB => kernel_rfl
      case hpuB => kernel_rfl
      case hksB => kernel_rfl
      case hst => exact ⟨fun w0 w1 h1 hb => h1.trans (hb.mono h1.size), fun k a v w0 w1 hW hb => ⟨fun e => (fun hp => hp) (hW.1 e), fun e => (fun hp => by obtain ⟨A2, c2, ys, O2, co2, E, e1, e2, e3, e4, e5⟩ := hp; exact ⟨A2, c2, ys, O2, co2, E, e1, e2, e3.below hb, e4, e5.carry hb⟩) (hW.2.1 e), fun e => (fun hp => by obtain ⟨g, e1, e0, e2⟩ := hp; exact ⟨g, e1, e0, e2.carry hb⟩) (hW.2.2 e)⟩, fun k a b v w0 _ h => h⟩
      case hC => exact (Below.refl _ _).drew
      refine fqR 66 (gcs g A 1 c) 29 (.tmp 5) g5 0 _ (by kernel_rfl) (by kernel_rfl) (by kernel_rfl) (by kernel_rfl) (by kernel_rfl) (by kernel_rfl) Tryz.underlying29 rfl (by kernel_rfl) (fun w hw => (HK85.out.carry hw.1).whole) ?_
      refine fq 67 (.pointer (some ⟨g47, 1, none⟩)) (by kernel_rfl) (by kernel_rfl) (by kernel_rfl) (by kernel_rfl) (fun w => (by kernel_rfl)) ?_
      refine fq1 68 (.int .i64 r.a) 3 (.tmp 67) g47 1 _ (by kernel_rfl) (by kernel_rfl) (by kernel_rfl) (by kernel_rfl) (by kernel_rfl) (by kernel_rfl) Tryz.underlying3 rfl (fun w hw => by rw [(HK88.out.carry hw.1).cell]; kernel_rfl) ?_
      refine fcall 69 15 #[.int .i64 r.a, .int .i64 2] (by kernel_rfl) (by kernel_rfl) (by kernel_rfl) (by kernel_rfl) (fun w => (by kernel_rfl)) (fun w hw => (picked_at r.a 2 q ra0 ra1 (by decide) (by decide) HQ w).mono ?hx3_69) ?_
      case hx3_69 =>
        rintro e w' ⟨rfl, rfl⟩
        exact ⟨_, rfl, ⟨fun _ => rfl, fun e => absurd e (by decide), fun e => absurd e (by decide)⟩, hw.1, Below.refl _ _⟩
      rintro v ⟨w', hw', hW⟩
      obtain rfl := hW.1 rfl
      clear  hW hw' w'
      refine fqe 70 (.int .i64 (IntKind.i64.wrap (2 + (q : Nat)))) (.int .i64 (((2 + q) : Nat) : Int)) (by rw [hsq]) (by kernel_rfl) (by kernel_rfl) (by kernel_rfl) (by kernel_rfl) (fun w => (by kernel_rfl)) ?_
      refine fq 71 (.slice A3 (2 + (cutS r.text 300).size) c3) (by kernel_rfl) (by kernel_rfl) (by kernel_rfl) (by kernel_rfl) (fun w => (by kernel_rfl)) ?_
      refine fcall 72 27 #[.agg (gcs g A 1 c), .int .i64 (((2 + q) : Nat) : Int), .slice A3 (2 + (cutS r.text 300).size) c3] (by kernel_rfl) (by kernel_rfl) (by kernel_rfl) (by kernel_rfl) (fun w => (by kernel_rfl)) (fun w hw => (hear_str (2 + q) (by omega) A3 (2 + (cutS r.text 300).size) c3 ([64, 1] ++ bts (cutS r.text 300)) g A 1 c xs hty.1 (by omega) (by omega) (HF.out.not (2 + q) (by omega)) w (HF91.out.below hw.1) (HBY3.out.below hw.1)).mono ?hx6_72) ?_
      case hx6_72 =>
        rintro e w' ⟨A2, c2, ys, O2, co2, E, hE, rfl, hV2, hp2, hO2, hb⟩
        exact ⟨_, rfl, ⟨fun e => absurd e (by decide), fun _ => ⟨A2, c2, ys, O2, co2, E, rfl, hE, hV2, hp2, hO2.mono (Nat.zero_le _)⟩, fun e => absurd e (by decide)⟩, hw.1.trans (hb.mono hw.1.size), hb⟩
      rintro v ⟨w', hw', hW⟩
      obtain ⟨A2, c2, ys, O2, co2, E, rfl, hE, h4⟩ := hW.2.1 rfl
      clear h4 ys hW hw' w'
      refine fq 65 (.tuple #[.agg (gcs (g.set (2 + q) (false, (g.t (2 + q)).2.1 + ((2 + (cutS r.text 300).size) : Nat), (g.t (2 + q)).2.2)) A2 1 c2), .slice O2 0 co2, .int .i64 E]) (by kernel_rfl) (by kernel_rfl) (by kernel_rfl) (by kernel_rfl) (fun w => (by kernel_rfl)) ?_
      refine fq 73 (.agg (gcs (g.set (2 + q) (false, (g.t (2 + q)).2.1 + ((2 + (cutS r.text 300).size) : Nat), (g.t (2 + q)).2.2)) A2 1 c2)) (by kernel_rfl) (by kernel_rfl) (by kernel_rfl) (by kernel_rfl) (fun w => (by kernel_rfl)) ?_
      refine fq 74 (.slice O2 0 co2) (by kernel_rfl) (by kernel_rfl) (by kernel_rfl) (by kernel_rfl) (fun w => (by kernel_rfl)) ?_
      refine fq 75 (.int .i64 E) (by kernel_rfl) (by kernel_rfl) (by kernel_rfl) (by kernel_rfl) (fun w => (by kernel_rfl)) ?_
      refine fnew 13 (fun w => .pointer (some ⟨w.heap.size, 0, none⟩)) (fun w => w.alloc (.cells #[.int .u64 0, .int .i64 0, .int .i64 0, .slice none 0 0, .bool false, .int .i64 0, .int .i64 0, .bool false, .int .i64 0, .int .i64 0, .bool false, .int .i64 0, .int .i64 0, .bool false, .int .i64 0, .int .i64 0, .bool false, .int .i64 0] 29)) (by kernel_rfl) (by kernel_rfl) (by kernel_rfl) (by kernel_rfl) (fun w => (by kernel_rfl)) (fun w hw => ⟨⟨fun e => absurd e (by decide), fun e => absurd e (by decide), fun _ => ⟨w.heap.size, rfl, hw.1.size, Blk.new _ _ _⟩⟩, hw.1.alloc hw.1.size _, (Below.refl _ _).alloc (Nat.le_refl _) _⟩) ?_
      rintro v ⟨w', hw', hW⟩
      obtain ⟨g93, rfl, hlog93, h4⟩ := hW.2.2 rfl
      clear h4 hW hw' w'
      refine fend [12, 13, 14] (by kernel_rfl) (by kernel_rfl) ?_
      intro wf94 hwwf94 hF
      obtain ⟨A2_, c2_, ys, O2_, co2_, E_, e2, _, hV2, hp2, hO2⟩ := (hF _ (List.mem_cons_of_mem _ List.mem_cons_self)).2.1 rfl
      obtain ⟨⟨rfl, rfl⟩, ⟨rfl, rfl⟩, rfl⟩ : (A2 = A2_ ∧ c2 = c2_) ∧ (O2 = O2_ ∧ co2 = co2_) ∧ E = E_ := by injection e2 with e2; simpa [gcs] using e2
      have HVO := Lib.hid (And.intro hV2 hO2)
      have HP2 := Lib.hid hp2
      clear e2 hV2 hp2 hO2
      obtain ⟨g_, e_, _, hNg93⟩ := (hF _ List.mem_cons_self).2.2 rfl
      obtain rfl : g93 = g_ := by injection e_ with e_; simpa using e_
      clear e_
      clear hF
      have hlg93 : w.heap.size ≤ g93 := Nat.le_trans HF89.out.size hlog93
      have hBLlg93 : wr42.heap.size ≤ g93 := Nat.le_trans HF90.out.size hlog93
      have hneg5g93 : g5 ≠ g93 := by have := HK85.out.lt; omega
      have HK95 := Lib.hid (HK85.out.carry hwwf94)
      clear HK85
      have HK96 := Lib.hid (HK86.out.carry hwwf94)
      clear HK86
      have HK97 := Lib.hid (HK87.out.carry hwwf94)
      clear HK87
      have HK98 := Lib.hid (HK88.out.carry hwwf94)
      clear HK88
      have HF99 := Lib.hid (HF89.out.trans (hwwf94.mono HF89.out.size))
      clear HF89
      have HF100 := Lib.hid (HF90.out.trans (hwwf94.mono HF90.out.size))
      clear HF90
      have HF101 := Lib.hid (HF91.out.below hwwf94)
      clear HF91
      have HF102 := Lib.hid (HBY3.out.below hwwf94)
      have HKg93 := Lib.hid hNg93
      clear hNg93
      refine tstoreP (by kernel_rfl) (by kernel_rfl) 29 (.tmp 13) (.tmp 73) (by kernel_rfl) g93 0 (by kernel_rfl) (gcs (g.set (2 + q) (false, (g.t (2 + q)).2.1 + ((2 + (cutS r.text 300).size) : Nat), (g.t (2 + q)).2.2)) A2 1 c2) (by kernel_rfl) 29 #[.int .u64 0, .int .i64 0, .int .i64 0, .slice none 0 0, .bool false, .int .i64 0, .int .i64 0, .bool false, .int .i64 0, .int .i64 0, .bool false, .int .i64 0, .int .i64 0, .bool false, .int .i64 0, .int .i64 0, .bool false, .int .i64 0] HKg93.out (by kernel_rfl) (Nat.le_of_eq (by kernel_rfl)) (gcs_one _ _ _ _) (gcs (g.set (2 + q) (false, (g.t (2 + q)).2.1 + ((2 + (cutS r.text 300).size) : Nat), (g.t (2 + q)).2.2)) A2 1 c2) (splice_all _ _ (by kernel_rfl)) ?_
      intro wz103 hBwz103 hwwz103
      have HK104 := Lib.hid (HK95.out.wr hwwz103 hneg5g93)
      clear HK95
      have HK105 := Lib.hid (HK96.out.wr hwwz103 (Blk.neq HK96.out HKg93.out (by decide)))
      clear HK96
      have HK106 := Lib.hid (HK97.out.wr hwwz103 (Blk.neq HK97.out HKg93.out (by decide)))
      clear HK97
      have HK107 := Lib.hid (HK98.out.wr hwwz103 (Blk.neq HK98.out HKg93.out (by decide)))
      clear HK98
      have HF108 := Lib.hid (hwwz103.trans_below HF99.out hlg93)
      clear HF99
      have HF109 := Lib.hid (hwwz103.trans_below HF100.out hBLlg93)
      clear HF100
      have HF110 := Lib.hid (And.intro (HVO.out.1.wrS hwwz103 (own_neq HVO.out.2 HKg93.out (by decide))) (HVO.out.2.wr hwwz103 (own_neq HVO.out.2 HKg93.out (by decide))))
      have HK111 := Lib.hid hBwz103
      clear HKg93
      refine tval (some 14) (.slice O2 0 co2) wz103 (by kernel_rfl) (by kernel_rfl) (by kernel_rfl) ?_
      refine tval (some 15) (.int .i64 E) wz103 (by kernel_rfl) (by kernel_rfl) (by kernel_rfl) ?_
      refine tend (hKC92 _ _ (?_))
      clear hKC92
      refine wp_seq_k ?_
      intro KC112 hKC112
      refine wp_seq_k ?_
      intro KC113 hKC113
      refine wp_regionW ?_
      refine wval (some 76) (.int .i64 E) wz103 (by kernel_rfl) (by kernel_rfl) (by kernel_rfl) ?_
      refine wvalE (some 77) (.bool (decide (E = 0))) (.bool false) wz103 (by simp [hE]) (by kernel_rfl) (by kernel_rfl) (by kernel_rfl) ?_
      refine wval (some 78) (.bool false) wz103 (by kernel_rfl) (by kernel_rfl) (by kernel_rfl) ?_
      refine wval (some 79) (.slice O2 0 co2) wz103 (by kernel_rfl) (by kernel_rfl) (by kernel_rfl) ?_
      refine wval (some 80) (.int .i64 0) wz103 (by kernel_rfl) (by kernel_rfl) (by kernel_rfl) ?_
      refine wval (some 81) (.bool false) wz103 (by kernel_rfl) (by kernel_rfl) (by kernel_rfl) ?_
      refine wval (some 82) (.bool false) wz103 (by kernel_rfl) (by kernel_rfl) (by kernel_rfl) ?_
      refine wnil (hKC113 _ _ (?_))
      clear hKC113
      refine wp_cond_false (by kernel_rfl) ?_
      refine wp_skip (hKC112 _ _ (?_))
      clear hKC112
      refine wp_regionW ?_
      refine wloadR (some 83) (by kernel_rfl) (by kernel_rfl) 29 (.tmp 13) (by kernel_rfl) g93 0 (by kernel_rfl) (gcs (g.set (2 + q) (false, (g.t (2 + q)).2.1 + ((2 + (cutS r.text 300).size) : Nat), (g.t (2 + q)).2.2)) A2 1 c2) _ Tryz.underlying29 rfl (by kernel_rfl) HK111.out.whole ?_
      refine wstoreP (by kernel_rfl) (by kernel_rfl) 29 (.tmp 5) (.tmp 83) (by kernel_rfl) g5 0 (by kernel_rfl) (gcs (g.set (2 + q) (false, (g.t (2 + q)).2.1 + ((2 + (cutS r.text 300).size) : Nat), (g.t (2 + q)).2.2)) A2 1 c2) (by kernel_rfl) 29 (gcs g A 1 c) HK104.out (by kernel_rfl) (Nat.le_of_eq (by kernel_rfl)) (gcs_one _ _ _ _) (gcs (g.set (2 + q) (false, (g.t (2 + q)).2.1 + ((2 + (cutS r.text 300).size) : Nat), (g.t (2 + q)).2.2)) A2 1 c2) (splice_all _ _ (by kernel_rfl)) ?_
      intro wz114 hBwz114 hwwz114
      have HK115 := Lib.hid (HK105.out.wr hwwz114 (Blk.neq HK105.out HK104.out (by decide)))
      clear HK105
      have HK116 := Lib.hid (HK106.out.wr hwwz114 (Blk.neq HK106.out HK104.out (by decide)))
      clear HK106
      have HK117 := Lib.hid (HK107.out.wr hwwz114 (Blk.neq HK107.out HK104.out (by decide)))
      clear HK107
      have HK118 := Lib.hid (HK111.out.wr hwwz114 (Ne.symm hneg5g93))
      clear HK111
      have HF119 := Lib.hid (hwwz114.trans_below HF108.out hlg5)
      clear HF108
      have HF120 := Lib.hid (And.intro (HF110.out.1.wrS hwwz114 (own_neq HF110.out.2 HK104.out (by decide))) (HF110.out.2.wr hwwz114 (own_neq HF110.out.2 HK104.out (by decide))))
      clear HF110
      have HK121 := Lib.hid hBwz114
      clear HK104
      refine wnil (hKC45 _ _ (?_))
      clear hKC45
      have hsi : IntKind.i64.wrap (((i : Nat) : Int) + 1) = ((i + 1 : Nat) : Int) := by rw [IntKind.wrap_i64]; omega
      refine wp_regionW ?_
      refine wvalE (some 84) (.int .i64 (IntKind.i64.wrap ((i : Nat) + 1))) (.int .i64 ((i + 1 : Nat) : Int)) wz114 (by rw [hsi]) (by kernel_rfl) (by kernel_rfl) (by kernel_rfl) ?_
      refine wval (some 33) (.int .i64 ((i + 1 : Nat) : Int)) wz114 (by kernel_rfl) (by kernel_rfl) (by kernel_rfl) ?_
      refine wnil (then_normal (?_))
      refine ⟨_, ?hm_, i + 1, (g.set (2 + q) (false, (g.t (2 + q)).2.1 + ((2 + (cutS r.text 300).size) : Nat), (g.t (2 + q)).2.2)), A2, c2, ys, (fun n_ => (#[undef, undef, undef, undef, u6_ 4, undef, undef, undef, undef, undef, .pointer (some ⟨g47, 0, none⟩), .slice A3 (2 + (cutS r.text 300).size) c3, .int .i64 eb, .pointer (some ⟨g93, 0, none⟩), .slice O2 0 co2, .int .i64 E, undef, undef, undef, undef, undef, undef, undef, undef, undef, undef, undef, undef, undef, undef, undef, undef, undef, undef, .bool true, .pointer (some ⟨bR, oR + i * 4, none⟩), .agg #[.int .i64 r.kind, .int .i64 r.a, .int .i64 r.b, .string r.text], .tuple #[.slice Ab kb cb, .int .i64 eb], .pointer (some ⟨g9, 5, none⟩), .int .u64 y.key, .int .u64 (mixI y.key), .pointer (some ⟨g9, 4, none⟩), .int .i64 (y.to_ : Nat), .agg #[.int .i64 2, .int .i64 (y.to_ : Nat), .int .i64 0, .slice none 0 0, .int .i64 0, .int .i64 0], .pointer (some ⟨g47, 2, none⟩), .int .i64 r.b, .int .i64 (m : Nat), .agg #[.int .i64 r.kind, .int .i64 r.a, .int .i64 r.b, .string r.text], .agg #[.int .i64 (f.kind : Nat), .int .i64 (f.id : Nat), .int .i64 (f.off : Nat), .bool f.fin, .int .i64 (f.code : Nat), .slice Af f.rngs.length cf, .slice Bf f.data.length df], .slice (some ⟨gS, 0, none⟩) 1 1, .tuple #[.slice Ab kb cb, .int .i64 eb], .slice Ab kb cb, .int .i64 eb, .pointer (some ⟨g47, 0, none⟩), .int .i64 r.kind, .int .i64 (m3 : Nat), .bool true, .pointer (some ⟨g9, 4, none⟩), .int .i64 (y.to_ : Nat), .int .u8 1, .slice (some ⟨g75, 0, none⟩) 2 2, .pointer (some ⟨g47, 3, none⟩), .string r.text, .string (cutS r.text 300), .slice A3 (2 + (cutS r.text 300).size) c3, .tuple #[.agg (gcs (g.set (2 + q) (false, (g.t (2 + q)).2.1 + ((2 + (cutS r.text 300).size) : Nat), (g.t (2 + q)).2.2)) A2 1 c2), .slice O2 0 co2, .int .i64 E], .agg (gcs g A 1 c), .pointer (some ⟨g47, 1, none⟩), .int .i64 r.a, .int .i64 (q : Nat), .int .i64 (((2 + q) : Nat) : Int), .slice A3 (2 + (cutS r.text 300).size) c3, .tuple #[.agg (gcs (g.set (2 + q) (false, (g.t (2 + q)).2.1 + ((2 + (cutS r.text 300).size) : Nat), (g.t (2 + q)).2.2)) A2 1 c2), .slice O2 0 co2, .int .i64 E], .agg (gcs (g.set (2 + q) (false, (g.t (2 + q)).2.1 + ((2 + (cutS r.text 300).size) : Nat), (g.t (2 + q)).2.2)) A2 1 c2), .slice O2 0 co2, .int .i64 E, .int .i64 E, .bool false, .bool false, .slice O2 0 co2, .int .i64 0, .bool false, .bool false, .agg (gcs (g.set (2 + q) (false, (g.t (2 + q)).2.1 + ((2 + (cutS r.text 300).size) : Nat), (g.t (2 + q)).2.2)) A2 1 c2), .int .i64 ((i + 1 : Nat) : Int), undef, undef, undef, undef, undef, undef, undef, undef, undef, undef, undef, undef, undef, undef, undef, undef, undef, undef, undef, undef, undef, undef, undef, undef, undef, undef, undef, undef, undef, undef, undef, undef, undef, undef, undef, undef, undef, undef, undef, undef, undef, undef, undef, undef, undef, undef, undef, undef, undef, undef, undef, undef, undef, undef, undef, undef, undef, undef, undef, undef, undef, undef] : Array Value).getD n_ undef), rfl, (by kernel_rfl), by omega, HK121.out, HK115.out, HK116.out, HF120.out.1, (own_neq HF120.out.2 HK121.out (by decide)), (HF.out.step _ _ HF102.out.k4 HP2.out), HF119.out⟩
      case hm_ => omega
    · skip
      refine wp_regionW ?_
      refine wval (some 53) (.pointer (some ⟨g47, 0, none⟩)) wf64 (by kernel_rfl) (by kernel_rfl) (by kernel_rfl) ?_
      refine wload (some 54) (.int .i64 r.kind) 3 (.tmp 53) g47 0 _ (by kernel_rfl) (by kernel_rfl) (by kernel_rfl) (by kernel_rfl) Tryz.underlying3 rfl (by rw [HK68.out.cell]; kernel_rfl) ?_
      refine wcall (some 55) 15 #[.int .i64 r.kind, .int .i64 3] (by kernel_rfl) (by kernel_rfl) (by kernel_rfl) ?_
      refine (picked_at r.kind 3 m3 (by omega) (by omega) (by decide) (by decide) HM3 _).mono ?_
      rintro e wz122 ⟨rfl, rfl⟩
      refine ⟨_, rfl, ?_⟩
      refine wvalE (some 56) (.bool (decide (((m3 : Nat) : Int) = 0))) (.bool false) wf64 (by simp; omega) (by kernel_rfl) (by kernel_rfl) (by kernel_rfl) ?_
      refine wnil (hKC73 _ _ (?_))
      clear hKC73
      refine wp_cond_false (by kernel_rfl) ?_
      refine wp_skip (hKC72 _ _ (?_))
      clear hKC72
      refine wp_seq_k ?_
      intro KC123 hKC123
      have hsq : IntKind.i64.wrap ((2 : Int) + (q : Nat)) = ((2 + q : Nat) : Int) := by rw [IntKind.wrap_i64]; omega
      have hty := HF.out.ty (2 + q) (by omega)
      have hi8 : i < 8 := by omega
      refine wp_flow (fun k => decide (k < 12)) (fun k => k == 3 || k == 6 || k == 11) 147 [0, 1, 2, 3, 4, 5, 6, 7, 8, 9, 10, 11] (fun w' => Below wf64.heap.size wf64 w') (fun k a v w' => (k = 3 → v = .int .i64 (q : Nat)) ∧ (k = 6 → ∃ A2 c2 ys O2 co2 E, v = .tuple #[.agg (gcs (g.set (2 + q) (false, (g.t (2 + q)).2.1 + (kb : Nat), (g.t (2 + q)).2.2)) A2 1 c2), .slice O2 0 co2, .int .i64 E] ∧ ¬ E = 0 ∧ GtV w' (g.set (2 + q) (false, (g.t (2 + q)).2.1 + (kb : Nat), (g.t (2 + q)).2.2)) A2 1 c2 ys ∧ ys.map NtB.pl = xs.map NtB.pl ∧ OwnX ntc 29 w' 0 53 A2 c2 ys) ∧ (k = 11 → ∃ g, v = .pointer (some ⟨g, 0, none⟩) ∧ wf64.heap.size ≤ g ∧ Blk w' g 29 #[.int .u64 0, .int .i64 0, .int .i64 0, .slice none 0 0, .bool false, .int .i64 0, .int .i64 0, .bool false, .int .i64 0, .int .i64 0, .bool false, .int .i64 0, .int .i64 0, .bool false, .int .i64 0, .int .i64 0, .bool false, .int .i64 0])) (by kernel_rfl) ?hflB ?hpuB ?hksB (fun _ _ _ _ _ h => h) (by kernel_rfl) ?hst ?hC ?_
      case hflB => kernel_rfl
      case hpuB => kernel_rfl
      case hksB => kernel_rfl
      case hst => exact ⟨fun w0 w1 h1 hb => h1.trans (hb.mono h1.size), fun k a v w0 w1 hW hb => ⟨fun e => (fun hp => hp) (hW.1 e), fun e => (fun hp => by obtain ⟨A2, c2, ys, O2, co2, E, e1, e2, e3, e4, e5⟩ := hp; exact ⟨A2, c2, ys, O2, co2, E, e1, e2, e3.below hb, e4, e5.carry hb⟩) (hW.2.1 e), fun e => (fun hp => by obtain ⟨g, e1, e0, e2⟩ := hp; exact ⟨g, e1, e0, e2.carry hb⟩) (hW.2.2 e)⟩, fun k a b v w0 _ h => h⟩
      case hC => exact (Below.refl _ _).drew
      refine fqR 66 (gcs g A 1 c) 29 (.tmp 5) g5 0 _ (by kernel_rfl) (by kernel_rfl) (by kernel_rfl) (by kernel_rfl) (by kernel_rfl) (by kernel_rfl) Tryz.underlying29 rfl (by kernel_rfl) (fun w hw => (HK65.out.carry hw.1).whole) ?_
      refine fq 67 (.pointer (some ⟨g47, 1, none⟩)) (by kernel_rfl) (by kernel_rfl) (by kernel_rfl) (by kernel_rfl) (fun w => (by kernel_rfl)) ?_
      refine fq1 68 (.int .i64 r.a) 3 (.tmp 67) g47 1 _ (by kernel_rfl) (by kernel_rfl) (by kernel_rfl) (by kernel_rfl) (by kernel_rfl) (by kernel_rfl) Tryz.underlying3 rfl (fun w hw => by rw [(HK68.out.carry hw.1).cell]; kernel_rfl) ?_
      refine fcall 69 15 #[.int .i64 r.a, .int .i64 2] (by kernel_rfl) (by kernel_rfl) (by kernel_rfl) (by kernel_rfl) (fun w => (by kernel_rfl)) (fun w hw => (picked_at r.a 2 q ra0 ra1 (by decide) (by decide) HQ w).mono ?hx3_69) ?_
      case hx3_69 =>
        rintro e w' ⟨rfl, rfl⟩
        exact ⟨_, rfl, ⟨fun _ => rfl, fun e => absurd e (by decide), fun e => absurd e (by decide)⟩, hw.1, Below.refl _ _⟩
      rintro v ⟨w', hw', hW⟩
      obtain rfl := hW.1 rfl
      clear  hW hw' w'
      refine fqe 70 (.int .i64 (IntKind.i64.wrap (2 + (q : Nat)))) (.int .i64 (((2 + q) : Nat) : Int)) (by rw [hsq]) (by kernel_rfl) (by kernel_rfl) (by kernel_rfl) (by kernel_rfl) (fun w => (by kernel_rfl)) ?_
      refine fq 71 (.slice Ab kb cb) (by kernel_rfl) (by kernel_rfl) (by kernel_rfl) (by kernel_rfl) (fun w => (by kernel_rfl)) ?_
      refine fcall 72 27 #[.agg (gcs g A 1 c), .int .i64 (((2 + q) : Nat) : Int), .slice Ab kb cb] (by kernel_rfl) (by kernel_rfl) (by kernel_rfl) (by kernel_rfl) (fun w => (by kernel_rfl)) (fun w hw => (hear_str (2 + q) (by omega) Ab kb cb bs g A 1 c xs hty.1 (by omega) (by omega) (HF.out.not (2 + q) (by omega)) w (HF71.out.below hw.1) (HBY.out.below hw.1)).mono ?hx6_72) ?_
      case hx6_72 =>
        rintro e w' ⟨A2, c2, ys, O2, co2, E, hE, rfl, hV2, hp2, hO2, hb⟩
        exact ⟨_, rfl, ⟨fun e => absurd e (by decide), fun _ => ⟨A2, c2, ys, O2, co2, E, rfl, hE, hV2, hp2, hO2.mono (Nat.zero_le _)⟩, fun e => absurd e (by decide)⟩, hw.1.trans (hb.mono hw.1.size), hb⟩
      rintro v ⟨w', hw', hW⟩
      obtain ⟨A2, c2, ys, O2, co2, E, rfl, hE, h4⟩ := hW.2.1 rfl
      clear h4 ys hW hw' w'
      refine fq 65 (.tuple #[.agg (gcs (g.set (2 + q) (false, (g.t (2 + q)).2.1 + (kb : Nat), (g.t (2 + q)).2.2)) A2 1 c2), .slice O2 0 co2, .int .i64 E]) (by kernel_rfl) (by kernel_rfl) (by kernel_rfl) (by kernel_rfl) (fun w => (by kernel_rfl)) ?_
      refine fq 73 (.agg (gcs (g.set (2 + q) (false, (g.t (2 + q)).2.1 + (kb : Nat), (g.t (2 + q)).2.2)) A2 1 c2)) (by kernel_rfl) (by kernel_rfl) (by kernel_rfl) (by kernel_rfl) (fun w => (by kernel_rfl)) ?_
      refine fq 74 (.slice O2 0 co2) (by kernel_rfl) (by kernel_rfl) (by kernel_rfl) (by kernel_rfl) (fun w => (by kernel_rfl)) ?_
      refine fq 75 (.int .i64 E) (by kernel_rfl) (by kernel_rfl) (by kernel_rfl) (by kernel_rfl) (fun w => (by kernel_rfl)) ?_
      refine fnew 13 (fun w => .pointer (some ⟨w.heap.size, 0, none⟩)) (fun w => w.alloc (.cells #[.int .u64 0, .int .i64 0, .int .i64 0, .slice none 0 0, .bool false, .int .i64 0, .int .i64 0, .bool false, .int .i64 0, .int .i64 0, .bool false, .int .i64 0, .int .i64 0, .bool false, .int .i64 0, .int .i64 0, .bool false, .int .i64 0] 29)) (by kernel_rfl) (by kernel_rfl) (by kernel_rfl) (by kernel_rfl) (fun w => (by kernel_rfl)) (fun w hw => ⟨⟨fun e => absurd e (by decide), fun e => absurd e (by decide), fun _ => ⟨w.heap.size, rfl, hw.1.size, Blk.new _ _ _⟩⟩, hw.1.alloc hw.1.size _, (Below.refl _ _).alloc (Nat.le_refl _) _⟩) ?_
      rintro v ⟨w', hw', hW⟩
      obtain ⟨g124, rfl, hlog124, h4⟩ := hW.2.2 rfl
      clear h4 hW hw' w'
      refine fend [12, 13, 14] (by kernel_rfl) (by kernel_rfl) ?_
      intro wf125 hwwf125 hF
      obtain ⟨A2_, c2_, ys, O2_, co2_, E_, e2, _, hV2, hp2, hO2⟩ := (hF _ (List.mem_cons_of_mem _ List.mem_cons_self)).2.1 rfl
      obtain ⟨⟨rfl, rfl⟩, ⟨rfl, rfl⟩, rfl⟩ : (A2 = A2_ ∧ c2 = c2_) ∧ (O2 = O2_ ∧ co2 = co2_) ∧ E = E_ := by injection e2 with e2; simpa [gcs] using e2
      have HVO := Lib.hid (And.intro hV2 hO2)
      have HP2 := Lib.hid hp2
      clear e2 hV2 hp2 hO2
      obtain ⟨g_, e_, _, hNg124⟩ := (hF _ List.mem_cons_self).2.2 rfl
      obtain rfl : g124 = g_ := by injection e_ with e_; simpa using e_
      clear e_
      clear hF
      have hlg124 : w.heap.size ≤ g124 := Nat.le_trans HF69.out.size hlog124
      have hBLlg124 : wr42.heap.size ≤ g124 := Nat.le_trans HF70.out.size hlog124
      have hneg5g124 : g5 ≠ g124 := by have := HK65.out.lt; omega
      have HK126 := Lib.hid (HK65.out.carry hwwf125)
      clear HK65
      have HK127 := Lib.hid (HK66.out.carry hwwf125)
      clear HK66
      have HK128 := Lib.hid (HK67.out.carry hwwf125)
      clear HK67
      have HK129 := Lib.hid (HK68.out.carry hwwf125)
      clear HK68
      have HF130 := Lib.hid (HF69.out.trans (hwwf125.mono HF69.out.size))
      clear HF69
      have HF131 := Lib.hid (HF70.out.trans (hwwf125.mono HF70.out.size))
      clear HF70
      have HF132 := Lib.hid (HF71.out.below hwwf125)
      clear HF71
      have HF133 := Lib.hid (HBY.out.below hwwf125)
      have HKg124 := Lib.hid hNg124
      clear hNg124
      refine tstoreP (by kernel_rfl) (by kernel_rfl) 29 (.tmp 13) (.tmp 73) (by kernel_rfl) g124 0 (by kernel_rfl) (gcs (g.set (2 + q) (false, (g.t (2 + q)).2.1 + (kb : Nat), (g.t (2 + q)).2.2)) A2 1 c2) (by kernel_rfl) 29 #[.int .u64 0, .int .i64 0, .int .i64 0, .slice none 0 0, .bool false, .int .i64 0, .int .i64 0, .bool false, .int .i64 0, .int .i64 0, .bool false, .int .i64 0, .int .i64 0, .bool false, .int .i64 0, .int .i64 0, .bool false, .int .i64 0] HKg124.out (by kernel_rfl) (Nat.le_of_eq (by kernel_rfl)) (gcs_one _ _ _ _) (gcs (g.set (2 + q) (false, (g.t (2 + q)).2.1 + (kb : Nat), (g.t (2 + q)).2.2)) A2 1 c2) (splice_all _ _ (by kernel_rfl)) ?_
      intro wz134 hBwz134 hwwz134
      have HK135 := Lib.hid (HK126.out.wr hwwz134 hneg5g124)
      clear HK126
      have HK136 := Lib.hid (HK127.out.wr hwwz134 (Blk.neq HK127.out HKg124.out (by decide)))
      clear HK127
      have HK137 := Lib.hid (HK128.out.wr hwwz134 (Blk.neq HK128.out HKg124.out (by decide)))
      clear HK128
      have HK138 := Lib.hid (HK129.out.wr hwwz134 (Blk.neq HK129.out HKg124.out (by decide)))
      clear HK129
      have HF139 := Lib.hid (hwwz134.trans_below HF130.out hlg124)
      clear HF130
      have HF140 := Lib.hid (hwwz134.trans_below HF131.out hBLlg124)
      clear HF131
      have HF141 := Lib.hid (And.intro (HVO.out.1.wrS hwwz134 (own_neq HVO.out.2 HKg124.out (by decide))) (HVO.out.2.wr hwwz134 (own_neq HVO.out.2 HKg124.out (by decide))))
      have HK142 := Lib.hid hBwz134
      clear HKg124
      refine tval (some 14) (.slice O2 0 co2) wz134 (by kernel_rfl) (by kernel_rfl) (by kernel_rfl) ?_
      refine tval (some 15) (.int .i64 E) wz134 (by kernel_rfl) (by kernel_rfl) (by kernel_rfl) ?_
      refine tend (hKC123 _ _ (?_))
      clear hKC123
      refine wp_seq_k ?_
      intro KC143 hKC143
      refine wp_seq_k ?_
      intro KC144 hKC144
      refine wp_regionW ?_
      refine wval (some 76) (.int .i64 E) wz134 (by kernel_rfl) (by kernel_rfl) (by kernel_rfl) ?_
      refine wvalE (some 77) (.bool (decide (E = 0))) (.bool false) wz134 (by simp [hE]) (by kernel_rfl) (by kernel_rfl) (by kernel_rfl) ?_
      refine wval (some 78) (.bool false) wz134 (by kernel_rfl) (by kernel_rfl) (by kernel_rfl) ?_
      refine wval (some 79) (.slice O2 0 co2) wz134 (by kernel_rfl) (by kernel_rfl) (by kernel_rfl) ?_
      refine wval (some 80) (.int .i64 0) wz134 (by kernel_rfl) (by kernel_rfl) (by kernel_rfl) ?_
      refine wval (some 81) (.bool false) wz134 (by kernel_rfl) (by kernel_rfl) (by kernel_rfl) ?_
      refine wval (some 82) (.bool false) wz134 (by kernel_rfl) (by kernel_rfl) (by kernel_rfl) ?_
      refine wnil (hKC144 _ _ (?_))
      clear hKC144
      refine wp_cond_false (by kernel_rfl) ?_
      refine wp_skip (hKC143 _ _ (?_))
      clear hKC143
      refine wp_regionW ?_
      refine wloadR (some 83) (by kernel_rfl) (by kernel_rfl) 29 (.tmp 13) (by kernel_rfl) g124 0 (by kernel_rfl) (gcs (g.set (2 + q) (false, (g.t (2 + q)).2.1 + (kb : Nat), (g.t (2 + q)).2.2)) A2 1 c2) _ Tryz.underlying29 rfl (by kernel_rfl) HK142.out.whole ?_
      refine wstoreP (by kernel_rfl) (by kernel_rfl) 29 (.tmp 5) (.tmp 83) (by kernel_rfl) g5 0 (by kernel_rfl) (gcs (g.set (2 + q) (false, (g.t (2 + q)).2.1 + (kb : Nat), (g.t (2 + q)).2.2)) A2 1 c2) (by kernel_rfl) 29 (gcs g A 1 c) HK135.out (by kernel_rfl) (Nat.le_of_eq (by kernel_rfl)) (gcs_one _ _ _ _) (gcs (g.set (2 + q) (false, (g.t (2 + q)).2.1 + (kb : Nat), (g.t (2 + q)).2.2)) A2 1 c2) (splice_all _ _ (by kernel_rfl)) ?_
      intro wz145 hBwz145 hwwz145
      have HK146 := Lib.hid (HK136.out.wr hwwz145 (Blk.neq HK136.out HK135.out (by decide)))
      clear HK136
      have HK147 := Lib.hid (HK137.out.wr hwwz145 (Blk.neq HK137.out HK135.out (by decide)))
      clear HK137
      have HK148 := Lib.hid (HK138.out.wr hwwz145 (Blk.neq HK138.out HK135.out (by decide)))
      clear HK138
      have HK149 := Lib.hid (HK142.out.wr hwwz145 (Ne.symm hneg5g124))
      clear HK142
      have HF150 := Lib.hid (hwwz145.trans_below HF139.out hlg5)
      clear HF139
      have HF151 := Lib.hid (And.intro (HF141.out.1.wrS hwwz145 (own_neq HF141.out.2 HK135.out (by decide))) (HF141.out.2.wr hwwz145 (own_neq HF141.out.2 HK135.out (by decide))))
      clear HF141
      have HK152 := Lib.hid hBwz145
      clear HK135
      refine wnil (hKC45 _ _ (?_))
      clear hKC45
      have hsi : IntKind.i64.wrap (((i : Nat) : Int) + 1) = ((i + 1 : Nat) : Int) := by rw [IntKind.wrap_i64]; omega
      refine wp_regionW ?_
      refine wvalE (some 84) (.int .i64 (IntKind.i64.wrap ((i : Nat) + 1))) (.int .i64 ((i + 1 : Nat) : Int)) wz145 (by rw [hsi]) (by kernel_rfl) (by kernel_rfl) (by kernel_rfl) ?_
      refine wval (some 33) (.int .i64 ((i + 1 : Nat) : Int)) wz145 (by kernel_rfl) (by kernel_rfl) (by kernel_rfl) ?_
      refine wnil (then_normal (?_))
      refine ⟨_, ?hm_, i + 1, (g.set (2 + q) (false, (g.t (2 + q)).2.1 + (kb : Nat), (g.t (2 + q)).2.2)), A2, c2, ys, (fun n_ => (#[undef, undef, undef, undef, u6_ 4, undef, undef, undef, undef, undef, .pointer (some ⟨g47, 0, none⟩), .slice Ab kb cb, .int .i64 eb, .pointer (some ⟨g124, 0, none⟩), .slice O2 0 co2, .int .i64 E, undef, undef, undef, undef, undef, undef, undef, undef, undef, undef, undef, undef, undef, undef, undef, undef, undef, undef, .bool true, .pointer (some ⟨bR, oR + i * 4, none⟩), .agg #[.int .i64 r.kind, .int .i64 r.a, .int .i64 r.b, .string r.text], .tuple #[.slice Ab kb cb, .int .i64 eb], .pointer (some ⟨g9, 5, none⟩), .int .u64 y.key, .int .u64 (mixI y.key), .pointer (some ⟨g9, 4, none⟩), .int .i64 (y.to_ : Nat), .agg #[.int .i64 2, .int .i64 (y.to_ : Nat), .int .i64 0, .slice none 0 0, .int .i64 0, .int .i64 0], .pointer (some ⟨g47, 2, none⟩), .int .i64 r.b, .int .i64 (m : Nat), .agg #[.int .i64 r.kind, .int .i64 r.a, .int .i64 r.b, .string r.text], .agg #[.int .i64 (f.kind : Nat), .int .i64 (f.id : Nat), .int .i64 (f.off : Nat), .bool f.fin, .int .i64 (f.code : Nat), .slice Af f.rngs.length cf, .slice Bf f.data.length df], .slice (some ⟨gS, 0, none⟩) 1 1, .tuple #[.slice Ab kb cb, .int .i64 eb], .slice Ab kb cb, .int .i64 eb, .pointer (some ⟨g47, 0, none⟩), .int .i64 r.kind, .int .i64 (m3 : Nat), .bool false, u6_ 57, u6_ 58, u6_ 59, u6_ 60, u6_ 61, u6_ 62, u6_ 63, u6_ 64, .tuple #[.agg (gcs (g.set (2 + q) (false, (g.t (2 + q)).2.1 + (kb : Nat), (g.t (2 + q)).2.2)) A2 1 c2), .slice O2 0 co2, .int .i64 E], .agg (gcs g A 1 c), .pointer (some ⟨g47, 1, none⟩), .int .i64 r.a, .int .i64 (q : Nat), .int .i64 (((2 + q) : Nat) : Int), .slice Ab kb cb, .tuple #[.agg (gcs (g.set (2 + q) (false, (g.t (2 + q)).2.1 + (kb : Nat), (g.t (2 + q)).2.2)) A2 1 c2), .slice O2 0 co2, .int .i64 E], .agg (gcs (g.set (2 + q) (false, (g.t (2 + q)).2.1 + (kb : Nat), (g.t (2 + q)).2.2)) A2 1 c2), .slice O2 0 co2, .int .i64 E, .int .i64 E, .bool false, .bool false, .slice O2 0 co2, .int .i64 0, .bool false, .bool false, .agg (gcs (g.set (2 + q) (false, (g.t (2 + q)).2.1 + (kb : Nat), (g.t (2 + q)).2.2)) A2 1 c2), .int .i64 ((i + 1 : Nat) : Int), undef, undef, undef, undef, undef, undef, undef, undef, undef, undef, undef, undef, undef, undef, undef, undef, undef, undef, undef, undef, undef, undef, undef, undef, undef, undef, undef, undef, undef, undef, undef, undef, undef, undef, undef, undef, undef, undef, undef, undef, undef, undef, undef, undef, undef, undef, undef, undef, undef, undef, undef, undef, undef, undef, undef, undef, undef, undef, undef, undef, undef, undef] : Array Value).getD n_ undef), rfl, (by kernel_rfl), by omega, HK152.out, HK146.out, HK147.out, HF151.out.1, (own_neq HF151.out.2 HK152.out (by decide)), (HF.out.step _ _ HF133.out.k4 HP2.out), HF150.out⟩
      case hm_ => omega
  · skip
    obtain rfl : i = k := by omega
    refine wp_regionW ?_
    refine wvalE (some 34) (.bool (decide (((i : Nat) : Int) < ((i : Nat) : Int)))) (.bool false) wr42 (by simp) (by kernel_rfl) (by kernel_rfl) (by kernel_rfl) ?_
    refine wnil (hKC43 _ _ (?_))
    clear hKC43
    refine wp_seq_k ?_
    intro KC153 hKC153
    refine wp_cond_false (by kernel_rfl) ?_
    refine wp_exit ?_
    refine then_exit ?_
    refine then_exit ?_
    refine inBlock_exit ?_
    refine hKC39 _ _ (?_)
    clear hKC39
    refine wp_seq_k ?_
    intro KC154 hKC154
    obtain ⟨bZ, oZ, a1, ca1, b1, d1, rfl, hnz⟩ := HGV.out.nt1 HF.out.pl
    refine wp_regionW ?_
    refine wval (some 85) (.pointer (some ⟨g5, 3, none⟩)) wr42 (by kernel_rfl) (by kernel_rfl) (by kernel_rfl) ?_
    refine wload (some 86) (.slice (some ⟨bZ, oZ, none⟩) 1 c) 24 (.tmp 85) g5 3 _ (by kernel_rfl) (by kernel_rfl) (by kernel_rfl) (by kernel_rfl) Tryz.underlying24 rfl (by rw [H5.out.cell]; kernel_rfl) ?_
    refine widx (some 87) 24 (.tmp 86) (.const (.int .i64 0)) bZ oZ 1 c .i64 0 29 oZ (by kernel_rfl) (by kernel_rfl) (by kernel_rfl) (by kernel_rfl) (by kernel_rfl) Tryz.underlying24 (by kernel_rfl) (by decide) (by decide) (by simp) ?_
    refine wloadR (some 88) (by kernel_rfl) (by kernel_rfl) 53 (.tmp 87) (by kernel_rfl) bZ (oZ) (by kernel_rfl) (nlit 1 7 1 K 0 a1 ca1 b1 d1) _ Tryz.underlying53 rfl (by kernel_rfl) hnz ?_
    refine wnew (some 16) 53 #[.int .i64 0, .int .i64 0, .int .i64 0, .int .u64 0, .bool false, .bool false, .int .i64 0, .slice none 0 0, .int .i64 0, .slice none 0 0, .slice none 0 0, .int .i64 0, .int .i64 0, .int .i64 0, .int .i64 0, .int .i64 0, .int .i64 0, .int .i64 0, .int .i64 0, .int .i64 0, .int .i64 0, .int .i64 0, .slice none 0 0, .bool false, .slice none 0 0, .int .i64 0, .int .i64 0, .bool false, .int .i64 0] (fun q => .pointer (some ⟨q, 0, none⟩)) (by kernel_rfl) (by kernel_rfl) (by kernel_rfl) ?_
    intro wz156 g155 hg155 hBg155 hbg155
    have hneg27g155 : g27 ≠ g155 := by have := H8.out.lt; omega
    have hlg155 : w.heap.size ≤ g155 := by rw [← hg155]; exact HB.out.size
    have hBLlg155 : wr42.heap.size ≤ g155 := by rw [← hg155]; exact HBL.out.size
    have HK157 := Lib.hid (H5.out.carry hbg155)
    have HK158 := Lib.hid (H6.out.carry hbg155)
    have HK159 := Lib.hid (H8.out.carry hbg155)
    have HF160 := Lib.hid (HB.out.trans (hbg155.mono HB.out.size))
    have HF161 := Lib.hid (HBL.out.trans (hbg155.mono HBL.out.size))
    have HF162 := Lib.hid (HGV.out.below hbg155)
    have HKg155 := Lib.hid hBg155
    clear hBg155 hbg155
    refine wstoreP (by kernel_rfl) (by kernel_rfl) 53 (.tmp 16) (.tmp 88) (by kernel_rfl) g155 0 (by kernel_rfl) (nlit 1 7 1 K 0 a1 ca1 b1 d1) (by kernel_rfl) 53 #[.int .i64 0, .int .i64 0, .int .i64 0, .int .u64 0, .bool false, .bool false, .int .i64 0, .slice none 0 0, .int .i64 0, .slice none 0 0, .slice none 0 0, .int .i64 0, .int .i64 0, .int .i64 0, .int .i64 0, .int .i64 0, .int .i64 0, .int .i64 0, .int .i64 0, .int .i64 0, .int .i64 0, .int .i64 0, .slice none 0 0, .bool false, .slice none 0 0, .int .i64 0, .int .i64 0, .bool false, .int .i64 0] HKg155.out (by kernel_rfl) (Nat.le_of_eq (by kernel_rfl)) (all_one (by kernel_rfl)) (nlit 1 7 1 K 0 a1 ca1 b1 d1) (splice_all _ _ (by kernel_rfl)) ?_
    intro wz163 hBwz163 hwwz163
    have HK164 := Lib.hid (HK157.out.wr hwwz163 (Blk.neq HK157.out HKg155.out (by decide)))
    clear HK157
    have HK165 := Lib.hid (HK158.out.wr hwwz163 (Blk.neq HK158.out HKg155.out (by decide)))
    clear HK158
    have HK166 := Lib.hid (HK159.out.wr hwwz163 hneg27g155)
    clear HK159
    have HF167 := Lib.hid (hwwz163.trans_below HF160.out hlg155)
    clear HF160
    have HF168 := Lib.hid (hwwz163.trans_below HF161.out hBLlg155)
    clear HF161
    have HF169 := Lib.hid (HF162.out.wrS hwwz163 (fun a ha => Nat.ne_of_lt (Nat.lt_of_lt_of_le (HAL.out a ha) hBLlg155)))
    clear HF162
    have HK170 := Lib.hid hBwz163
    clear HKg155
    refine wnil (hKC154 _ _ (?_))
    clear hKC154
    refine wp_seq_k ?_
    intro KC171 hKC171
    refine wp_regionW ?_
    refine wcall (some 89) 17 #[] (by kernel_rfl) (by kernel_rfl) (by kernel_rfl) ?_
    refine (gateTells_ok _).mono ?_
    rintro e wz172 ⟨rfl, hbc⟩
    refine ⟨_, rfl, ?_⟩
    have HK173 := Lib.hid (HK164.out.carry hbc)
    clear HK164
    have HK174 := Lib.hid (HK165.out.carry hbc)
    clear HK165
    have HK175 := Lib.hid (HK166.out.carry hbc)
    clear HK166
    have HK176 := Lib.hid (HK170.out.carry hbc)
    clear HK170
    have HF177 := Lib.hid (HF167.out.trans (hbc.mono HF167.out.size))
    clear HF167
    have HF178 := Lib.hid (HF168.out.trans (hbc.mono HF168.out.size))
    clear HF168
    have HF179 := Lib.hid (HF169.out.below hbc)
    clear HF169
    clear hbc
    refine wval (some 90) (.bool true) wz172 (by kernel_rfl) (by kernel_rfl) (by kernel_rfl) ?_
    refine wval (some 91) (.pointer (some ⟨g5, 3, none⟩)) wz172 (by kernel_rfl) (by kernel_rfl) (by kernel_rfl) ?_
    refine wload (some 92) (.slice (some ⟨bZ, oZ, none⟩) 1 c) 24 (.tmp 91) g5 3 _ (by kernel_rfl) (by kernel_rfl) (by kernel_rfl) (by kernel_rfl) Tryz.underlying24 rfl (by rw [HK173.out.cell]; kernel_rfl) ?_
    refine wval (some 93) (.int .i64 1) wz172 (by kernel_rfl) (by kernel_rfl) (by kernel_rfl) ?_
    refine wval (some 94) (.bool true) wz172 (by kernel_rfl) (by kernel_rfl) (by kernel_rfl) ?_
    refine wval (some 95) (.bool true) wz172 (by kernel_rfl) (by kernel_rfl) (by kernel_rfl) ?_
    refine wval (some 96) (.bool true) wz172 (by kernel_rfl) (by kernel_rfl) (by kernel_rfl) ?_
    refine wval (some 97) (.pointer (some ⟨g155, 0, none⟩)) wz172 (by kernel_rfl) (by kernel_rfl) (by kernel_rfl) ?_
    refine wload (some 98) (.int .i64 1) 3 (.tmp 97) g155 0 _ (by kernel_rfl) (by kernel_rfl) (by kernel_rfl) (by kernel_rfl) Tryz.underlying3 rfl (by rw [HK176.out.cell]; kernel_rfl) ?_
    refine wval (some 99) (.pointer (some ⟨g27, 0, none⟩)) wz172 (by kernel_rfl) (by kernel_rfl) (by kernel_rfl) ?_
    refine wload (some 100) (.int .i64 1) 3 (.tmp 99) g27 0 _ (by kernel_rfl) (by kernel_rfl) (by kernel_rfl) (by kernel_rfl) Tryz.underlying3 rfl (by rw [HK175.out.cell]; kernel_rfl) ?_
    refine wval (some 101) (.bool true) wz172 (by kernel_rfl) (by kernel_rfl) (by kernel_rfl) ?_
    refine wval (some 102) (.bool true) wz172 (by kernel_rfl) (by kernel_rfl) (by kernel_rfl) ?_
    refine wval (some 103) (.bool true) wz172 (by kernel_rfl) (by kernel_rfl) (by kernel_rfl) ?_
    refine wval (some 104) (.pointer (some ⟨g155, 3, none⟩)) wz172 (by kernel_rfl) (by kernel_rfl) (by kernel_rfl) ?_
    refine wload (some 105) (.int .u64 K) 23 (.tmp 104) g155 3 _ (by kernel_rfl) (by kernel_rfl) (by kernel_rfl) (by kernel_rfl) Tryz.underlying23 rfl (by rw [HK176.out.cell]; kernel_rfl) ?_
    refine wval (some 106) (.pointer (some ⟨g27, 3, none⟩)) wz172 (by kernel_rfl) (by kernel_rfl) (by kernel_rfl) ?_
    refine wload (some 107) (.int .u64 K) 23 (.tmp 106) g27 3 _ (by kernel_rfl) (by kernel_rfl) (by kernel_rfl) (by kernel_rfl) Tryz.underlying23 rfl (by rw [HK175.out.cell]; kernel_rfl) ?_
    refine wvalE (some 108) (.bool (decide (K = K))) (.bool true) wz172 (by simp) (by kernel_rfl) (by kernel_rfl) (by kernel_rfl) ?_
    refine wval (some 109) (.bool true) wz172 (by kernel_rfl) (by kernel_rfl) (by kernel_rfl) ?_
    refine wval (some 110) (.bool true) wz172 (by kernel_rfl) (by kernel_rfl) (by kernel_rfl) ?_
    refine wval (some 111) (.pointer (some ⟨g155, 4, none⟩)) wz172 (by kernel_rfl) (by kernel_rfl) (by kernel_rfl) ?_
    refine wload (some 112) (.bool false) 4 (.tmp 111) g155 4 _ (by kernel_rfl) (by kernel_rfl) (by kernel_rfl) (by kernel_rfl) Tryz.underlying4 rfl (by rw [HK176.out.cell]; kernel_rfl) ?_
    refine wval (some 113) (.pointer (some ⟨g27, 4, none⟩)) wz172 (by kernel_rfl) (by kernel_rfl) (by kernel_rfl) ?_
    refine wload (some 114) (.bool false) 4 (.tmp 113) g27 4 _ (by kernel_rfl) (by kernel_rfl) (by kernel_rfl) (by kernel_rfl) Tryz.underlying4 rfl (by rw [HK175.out.cell]; kernel_rfl) ?_
    refine wval (some 115) (.bool true) wz172 (by kernel_rfl) (by kernel_rfl) (by kernel_rfl) ?_
    refine wval (some 116) (.bool true) wz172 (by kernel_rfl) (by kernel_rfl) (by kernel_rfl) ?_
    refine wval (some 117) (.bool true) wz172 (by kernel_rfl) (by kernel_rfl) (by kernel_rfl) ?_
    refine wval (some 118) (.pointer (some ⟨g155, 5, none⟩)) wz172 (by kernel_rfl) (by kernel_rfl) (by kernel_rfl) ?_
    refine wval (some 119) (.pointer (some ⟨g155, 6, none⟩)) wz172 (by kernel_rfl) (by kernel_rfl) (by kernel_rfl) ?_
    refine wval (some 120) (.pointer (some ⟨g155, 6, none⟩)) wz172 (by kernel_rfl) (by kernel_rfl) (by kernel_rfl) ?_
    refine wload (some 121) (.int .i64 0) 3 (.tmp 120) g155 6 _ (by kernel_rfl) (by kernel_rfl) (by kernel_rfl) (by kernel_rfl) Tryz.underlying3 rfl (by rw [HK176.out.cell]; kernel_rfl) ?_
    refine wval (some 122) (.pointer (some ⟨g27, 5, none⟩)) wz172 (by kernel_rfl) (by kernel_rfl) (by kernel_rfl) ?_
    refine wval (some 123) (.pointer (some ⟨g27, 6, none⟩)) wz172 (by kernel_rfl) (by kernel_rfl) (by kernel_rfl) ?_
    refine wval (some 124) (.pointer (some ⟨g27, 6, none⟩)) wz172 (by kernel_rfl) (by kernel_rfl) (by kernel_rfl) ?_
    refine wload (some 125) (.int .i64 0) 3 (.tmp 124) g27 6 _ (by kernel_rfl) (by kernel_rfl) (by kernel_rfl) (by kernel_rfl) Tryz.underlying3 rfl (by rw [HK175.out.cell]; kernel_rfl) ?_
    refine wval (some 126) (.bool true) wz172 (by kernel_rfl) (by kernel_rfl) (by kernel_rfl) ?_
    refine wval (some 127) (.bool true) wz172 (by kernel_rfl) (by kernel_rfl) (by kernel_rfl) ?_
    refine wval (some 128) (.bool true) wz172 (by kernel_rfl) (by kernel_rfl) (by kernel_rfl) ?_
    refine wval (some 129) (.pointer (some ⟨g155, 5, none⟩)) wz172 (by kernel_rfl) (by kernel_rfl) (by kernel_rfl) ?_
    refine wval (some 130) (.pointer (some ⟨g155, 6, none⟩)) wz172 (by kernel_rfl) (by kernel_rfl) (by kernel_rfl) ?_
    refine wval (some 131) (.pointer (some ⟨g155, 9, none⟩)) wz172 (by kernel_rfl) (by kernel_rfl) (by kernel_rfl) ?_
    refine wload (some 132) (.slice a1 0 ca1) 32 (.tmp 131) g155 9 _ (by kernel_rfl) (by kernel_rfl) (by kernel_rfl) (by kernel_rfl) Tryz.underlying32 rfl (by rw [HK176.out.cell]; kernel_rfl) ?_
    refine wval (some 133) (.int .i64 0) wz172 (by kernel_rfl) (by kernel_rfl) (by kernel_rfl) ?_
    refine wval (some 134) (.pointer (some ⟨g27, 5, none⟩)) wz172 (by kernel_rfl) (by kernel_rfl) (by kernel_rfl) ?_
    refine wval (some 135) (.pointer (some ⟨g27, 6, none⟩)) wz172 (by kernel_rfl) (by kernel_rfl) (by kernel_rfl) ?_
    refine wval (some 136) (.pointer (some ⟨g27, 9, none⟩)) wz172 (by kernel_rfl) (by kernel_rfl) (by kernel_rfl) ?_
    refine wload (some 137) (.slice a0 0 ca0) 32 (.tmp 136) g27 9 _ (by kernel_rfl) (by kernel_rfl) (by kernel_rfl) (by kernel_rfl) Tryz.underlying32 rfl (by rw [HK175.out.cell]; kernel_rfl) ?_
    refine wval (some 138) (.int .i64 0) wz172 (by kernel_rfl) (by kernel_rfl) (by kernel_rfl) ?_
    refine wval (some 139) (.bool true) wz172 (by kernel_rfl) (by kernel_rfl) (by kernel_rfl) ?_
    refine wval (some 140) (.bool true) wz172 (by kernel_rfl) (by kernel_rfl) (by kernel_rfl) ?_
    refine wval (some 141) (.bool true) wz172 (by kernel_rfl) (by kernel_rfl) (by kernel_rfl) ?_
    refine wval (some 142) (.pointer (some ⟨g155, 5, none⟩)) wz172 (by kernel_rfl) (by kernel_rfl) (by kernel_rfl) ?_
    refine wval (some 143) (.pointer (some ⟨g155, 27, none⟩)) wz172 (by kernel_rfl) (by kernel_rfl) (by kernel_rfl) ?_
    refine wload (some 144) (.bool false) 4 (.tmp 143) g155 27 _ (by kernel_rfl) (by kernel_rfl) (by kernel_rfl) (by kernel_rfl) Tryz.underlying4 rfl (by rw [HK176.out.cell]; kernel_rfl) ?_
    refine wval (some 145) (.bool true) wz172 (by kernel_rfl) (by kernel_rfl) (by kernel_rfl) ?_
    refine wval (some 146) (.bool true) wz172 (by kernel_rfl) (by kernel_rfl) (by kernel_rfl) ?_
    refine wval (some 4) (.bool true) wz172 (by kernel_rfl) (by kernel_rfl) (by kernel_rfl) ?_
    refine wnil (hKC171 _ _ (?_))
    clear hKC171
    refine wp_ret ?_
    refine bodyPost_ret (v := .bool true) (by kernel_rfl) rfl ⟨rfl, HF177.out⟩
end Go.Proofs.YtbcagdjfegobnaaGreat
