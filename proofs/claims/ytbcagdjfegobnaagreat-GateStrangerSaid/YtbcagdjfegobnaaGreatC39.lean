/- Texts of the proof, laid together: CutStrWalk StrApp. -/
import Derived.Test.YtbcagdjfegobnaaGreatC00
import Derived.Lib.Hide
import Derived.Deep.AppendSrc
import Derived.Laws.IdiomCopy
/- The contract of cut. -/
namespace Go.Proofs.YtbcagdjfegobnaaGreat
open Go.ChangeShapes Go.WideShapes Go.ChangeAt Go.RowKit
set_option linter.unusedVariables false

/-- The first bytes of a text. -/
def cutS (s : ByteArray) (m : Nat) : ByteArray := s.extract 0 (min s.size m)
theorem cutS_size (s : ByteArray) (m : Nat) : (cutS s m).size ≤ m := by unfold cutS; simp; omega
theorem extract_whole (s : ByteArray) : s.extract 0 s.size = s := by
  apply ByteArray.ext; simp
theorem cutS_any (s : ByteArray) (m : Nat) (hs : s.size ≤ 9223372036854775807) (hm : m ≤ 9223372036854775807) (w : World) :
    Calls Tryz.prog 29 #[.string s, .int .i64 (m : Int)] w fun e w' => e = .returned (.string (cutS s m)) ∧ w = w' := by
  rcases Nat.lt_trichotomy s.size m with h | h | h
  · have e : cutS s m = s := by unfold cutS; rw [Nat.min_eq_left (by omega)]; exact extract_whole s
    rw [e]; clear e
    go_enter Tryz.func29, Tryz.ntmps29
    go_wp2_with fail
    all_goals (go_ret; exact ⟨rfl, rfl⟩)
  · have e : cutS s m = s := by unfold cutS; rw [Nat.min_eq_left (by omega)]; exact extract_whole s
    rw [e]; clear e
    subst h
    go_enter Tryz.func29, Tryz.ntmps29
    go_wp2_with fail
    all_goals (go_ret; exact ⟨rfl, rfl⟩)
  · have e : cutS s m = s.extract 0 m := by unfold cutS; rw [Nat.min_eq_right (by omega)]
    rw [e]; clear e
    go_enter Tryz.func29, Tryz.ntmps29
    go_wp2_with fail
    all_goals (go_ret; exact ⟨rfl, rfl⟩)
end Go.Proofs.YtbcagdjfegobnaaGreat
/- append of a string's bytes onto bytes of the call's own. -/
namespace Go.Proofs.YtbcagdjfegobnaaGreat
open Go.RowKit
set_option linter.unusedVariables false

/-- The bytes of a string. -/
def bts (s : ByteArray) : List UInt8 := s.data.toList
theorem bts_len (s : ByteArray) : (bts s).length = s.size := by unfold bts; rw [Array.length_toList]; rfl

theorem setCells_row (g : Nat) : ∀ (vs : List Value) (o : Nat) (w : World) (cur : Array Value) (e : TypeId) (fr : Nat × Nat), w.heap[g]? = some (.cells cur e fr) → o + vs.length ≤ cur.size →
    ∃ cur', (w.setCells g o vs).heap[g]? = some (.cells cur' e fr) ∧ cur'.size = cur.size ∧ cur'.toList.take (o + vs.length) = cur.toList.take o ++ vs
  | [], o, w, cur, e, fr, hg, hle => ⟨cur, hg, rfl, by simp⟩
  | v :: r, o, w, cur, e, fr, hg, hle => by
    have hle' : o + (r.length + 1) ≤ cur.size := hle
    have h1 : (w.setCell ⟨g, o, none⟩ v).heap[g]? = some (.cells (cur.setIfInBounds o v) e fr) := by
      simp [World.setCell, Array.getElem?_modify, hg]
    obtain ⟨cur', h2, h3, h4⟩ := setCells_row g r (o + 1) (w.setCell ⟨g, o, none⟩ v) (cur.setIfInBounds o v) e fr h1 (by simp; omega)
    refine ⟨cur', h2, by simpa using h3, ?_⟩
    rw [List.length_cons, show o + (r.length + 1) = o + 1 + r.length from by omega, h4]
    have : (cur.setIfInBounds o v).toList.take (o + 1) = cur.toList.take o ++ [v] := by
      rw [Array.toList_setIfInBounds, List.take_succ_eq_append_getElem (by simp; omega), List.getElem_set_self, List.take_set_of_le (Nat.le_refl _)]
    rw [this]; simp

section
variable {P : Program} (w : World)
theorem run_append_own_src (base : Nat) (t tx ty e : TypeId) (i : TypeInfo) (z : Value) (size bytes : Nat) (ht : P.underlying t = some (.slice e)) (hi : P.info? e = some i) (hz : i.zero = some z)
    (hsize : i.size = size) (hby : i.bytes = bytes) (hzs : z.cells.size = size) (hsz : 0 < size)
    (v : Value) (n : Nat) (xs : List Value) (hown : w.ownsRow base e size v n xs)
    (x : Value) (m : Nat) (news : List Value) (hs : Src P size tx x m news w)
    (h63 : n + m ≤ maxLen) (hbytes : (n + m) * bytes ≤ 140737488355328) (hbase : base ≤ w.heap.size) :
    ∃ v' w', (Builtin.append_ #[t, tx] ty #[v, x]).run P w = .ok v' w' ∧ w'.ownsRow base e size v' (n + m) (xs ++ news) ∧ w.grownBy w' v.ownBlock := by
  subst hsize
  subst hby
  have hsmall : n + m ≤ 9223372036854775807 := by simp only [maxLen] at h63; omega
  have hl := hs.newsLen
  have hlen : (xs ++ news).length = (n + m) * i.size := by rw [List.length_append, hown.1, hl, Nat.add_mul]
  have grown : ∀ (old : Nat), old < n + m → ∀ (row : Option Nat),
      (w.drew.alloc (.cells ((xs ++ news).toArray ++ Builtin.zeroCells z.cells (grownCap w (n + m) old e - (n + m))) e)).ownsRow base e i.size
        (.slice (some ⟨w.heap.size, 0, none⟩) (n + m) (grownCap w (n + m) old e)) (n + m) (xs ++ news) ∧
      w.grownBy (w.drew.alloc (.cells ((xs ++ news).toArray ++ Builtin.zeroCells z.cells (grownCap w (n + m) old e - (n + m))) e)) row := by
    intro old ho row
    have hge := grownCap_ge w (n + m) old e
    have hcm : grownCap w (n + m) old e ≤ maxLen := grownCap_le_maxLen w (n + m) old e h63
    refine ⟨⟨hlen, .inr ⟨w.heap.size, _, _, rfl, hbase, heap_alloc_new w.drew _, hge, hcm, ?_, ?_⟩⟩, ⟨rfl, rfl, rfl, by simp, fun k hk _ => heap_alloc_old w.drew _ hk⟩⟩
    · simp only [Array.size_append, List.size_toArray, size_zeroCells, hzs, hlen, ← Nat.add_mul]
      congr 1
      omega
    · simp only [Array.toList_append]
      rw [← hlen]
      exact List.take_left
  rcases hown.2 with ⟨rfl, rfl⟩ | ⟨g, cap, cur, rfl, hbg, hg, hnc, hcm, hcs, htake⟩
  · have hx : xs = [] := List.eq_nil_of_length_eq_zero (by simpa using hown.1)
    subst hx
    by_cases hm : m = 0
    · subst hm
      have hn : news = [] := List.eq_nil_of_length_eq_zero (by simpa using hl)
      subst hn
      refine ⟨.slice none 0 0, w, ?_, World.ownsRow_nil w base e i.size, ⟨rfl, rfl, rfl, Nat.le_refl _, fun _ _ _ => rfl⟩⟩
      rcases hs.kind with ⟨e', hk⟩ | hk <;> simp [Builtin.append_, run_underlying ht, run_underlying hk, sizeOf, typeInfo, hi, hs.len, hs.cells]
    · have hr := run_append_grow_src (P := P) w t tx ty e i z ht hi hz none 0 0 [] (by simp [Builtin.firstCells]) x m news hs (by omega) (by omega) (growslice_fits (by omega) (by have hb := hbytes; simp only [Nat.zero_add] at hb ⊢; omega))
      have hgr := grown 0 (by omega) (Value.ownBlock (.slice none 0 0))
      exact ⟨_, _, hr, hgr.1, hgr.2⟩
  · by_cases hroom : n + m ≤ cap
    · have hfit : n * i.size + news.length ≤ cur.size := by rw [hl, hcs, ← Nat.add_mul]; exact Nat.mul_le_mul_right _ hroom
      have hc : ∀ j, j < news.length → (w.cell? ⟨g, 0 + n * i.size + j, none⟩).isSome = true := fun j hj => by
        rw [cell_of_row w g _ cur e (0, 0) hg]; simp; omega
      have hf : ∀ j, j < news.length → w.frozen? ⟨g, 0 + n * i.size + j, none⟩ = false := fun j hj => by simp [World.frozen?, hg]
      have hr := run_append_room_src (P := P) w t tx ty e i ht hi g 0 n cap x m news hs hroom hc hf
      rw [Nat.zero_add] at hr
      obtain ⟨cur', h2, h3, h4⟩ := setCells_row g news (n * i.size) w cur e (0, 0) hg hfit
      refine ⟨_, _, hr, ⟨hlen, .inr ⟨g, cap, cur', rfl, hbg, h2, hroom, hcm, h3.trans hcs, ?_⟩⟩, ?_⟩
      · rw [Nat.add_mul, ← hl, h4, htake]
      · have hk := World.keptBut_setCells g (may := fun _ => True) news (n * i.size) w (fun _ _ => trivial)
        have hkeep : ∀ (vs : List Value) (o : Nat) (w : World), (w.setCells g o vs).os = w.os ∧ (w.setCells g o vs).tape = w.tape ∧ (w.setCells g o vs).output = w.output ∧ (w.setCells g o vs).heap.size = w.heap.size ∧ ∀ k, k ≠ g → (w.setCells g o vs).heap[k]? = w.heap[k]? := by
          intro vs
          induction vs with
          | nil => intro o w; exact ⟨rfl, rfl, rfl, rfl, fun _ _ => rfl⟩
          | cons v r ih =>
            intro o w
            obtain ⟨a1, a2, a3, a4, a5⟩ := ih (o + 1) (w.setCell ⟨g, o, none⟩ v)
            exact ⟨a1, a2, a3, by rw [World.setCells, a4]; simp [World.setCell], fun k hk => by rw [World.setCells, a5 k hk]; exact Below.heap_setCell w ⟨g, o, none⟩ v k hk⟩
        obtain ⟨a1, a2, a3, a4, a5⟩ := hkeep news (n * i.size) w
        exact ⟨a1, a2, a3, by rw [a4]; exact Nat.le_refl _, fun k _ hkr => a5 k (fun e => hkr (by simp [Value.ownBlock, e]))⟩
    · have holds : ∀ j u, xs[j]? = some u → w.cell? ((⟨g, 0, none⟩ : Addr).add j) = some u := hown.cells (g := g) rfl
      have hr := run_append_grow_src (P := P) w t tx ty e i z ht hi hz (some ⟨g, 0, none⟩) n cap xs (run_firstCells_some w.drew i.size n ⟨g, 0, none⟩ n cap xs hown.1 (by simpa using holds)) x m news hs (by omega) (by omega) (growslice_fits (by omega) hbytes)
      have hgr := grown cap (by omega) (Value.ownBlock (.slice (some ⟨g, 0, none⟩) n cap))
      exact ⟨_, _, hr, hgr.1, hgr.2⟩

/-- append of a string's bytes onto bytes of the call's own. -/
theorem wpList_appS {ops : Array Oper} {rest : List Oper} {o : Oper} {a : Act} {Q : Exit → Act → World → Prop} (hgd : o.guard = none) (s x : Operand) (t tx : TypeId)
    (ho : o.op = .call { callee := .builtin .append, args := #[s, x], argTypes := #[t, tx] })
    (base : Nat) (E : TypeId) (ht : P.underlying t = some (.slice E)) (htx : P.underlying tx = some .string) (hinfo : (P.info? E).map (fun i => (i.zero, i.size, i.bytes)) = some (some (.int .u8 0), 1, 1))
    (A0 : Option Addr) (n0 c0 : Nat) (as_v : List UInt8) (hs : a.eval s = .slice A0 n0 c0) (hn0 : as_v.length = n0) (hown : OwnB w base E A0 c0 as_v)
    (str : ByteArray) (hx : a.eval x = .string str)
    (zs : List UInt8) (hz : as_v ++ bts str = zs) (k : Nat) (hk : n0 + str.size = k) (hbytes : n0 + str.size ≤ 140737488355328) (hbase : base ≤ w.heap.size)
    (h : ∀ A' c' w', OwnB w' base E A' c' zs → k ≤ c' → c' ≤ 9223372036854775807 → Below base w w' → wpList P ops Q rest (a.put o.dst (.slice A' k c')) w') : wpList P ops Q (o :: rest) a w := by
  subst hz; subst hn0; subst hk
  refine wpList_plain hgd fun _ hK => ?_
  obtain ⟨i, hi, hz, hsize, hby⟩ := info_parts hinfo
  have hsrc : Src P 1 tx (.string str) str.size (u8s (bts str)) w := Src.ofString w htx str
  obtain ⟨v', w', hrun, h2, h3⟩ := run_append_own_src (P := P) w base t tx o.type E i (.int .u8 0) 1 1 ht hi hz hsize hby rfl (by decide) _ as_v.length (u8s as_v) hown _ str.size _ hsrc (by unfold maxLen; omega) (by omega) hbase
  obtain ⟨A', c', rfl, hc1, hc2⟩ := own_shape _ h2
  have h2' : OwnB w' base E A' c' (as_v ++ bts str) := by
    rw [← u8s_append] at h2
    unfold OwnB
    rw [List.length_append, bts_len]
    exact h2
  unfold Oper.wp execOp
  simp only [ho, resolve, invoke, builtin, Sem.run_bind, Sem.run_pure, Result.andThen_ok, List.map_toArray, List.map_cons, List.map_nil, hs, hx, hrun]
  exact hK _ _ (h A' c' w' h2' hc1 (by unfold maxLen at hc2; omega) ((Below.refl _ _).grown h3 hbase (fun k hk => (hown.lt k hk).1)))
end
end Go.Proofs.YtbcagdjfegobnaaGreat
