/- Plain: what became of each packet (a map of numbers). -/
import Derived.Maps.OwnSet
import Derived.Maps.RangeWalk
import Derived.Maps.OwnOps
import Derived.Test.YtoonohhjcfceeaaSpaceOver
namespace Go.Proofs.Ytoonohhjcfceeaa
open Go.RowKit Go.Maps
set_option linter.unusedVariables false

abbrev MapD := DataW Unit
def num64 (n : Int) : MapD := .lit (.int .i64 n)
/-- Of each number below nx that is known: 1 if it is on its way (L), else 2. -/
structure EndsOk (D : MapD) (nx : Int) (L : Int → Bool) : Prop where
  is : IsMap D
  val : ∀ n, Maps.has D (.int .i64 n) = true → 0 ≤ n ∧ n < nx ∧ ∀ z, D.atKey (.int .i64 n) z = num64 (if L n then 1 else 2)
  all : ∀ n, L n = true → Maps.has D (.int .i64 n) = true
theorem keyLit (n : Int) : WideAt.IsKeyLit (.int .i64 n) := trivial
theorem lit_ne {a b : Int} (h : a ≠ b) : (Lit.int .i64 a) ≠ .int .i64 b := fun e => h (by injection e)
theorem EndsOk.none : EndsOk (.map []) 0 (fun _ => false) := ⟨isMap_empty, fun n h => by simp [Maps.has] at h, fun n h => by cases h⟩
theorem EndsOk.up {D : MapD} {nx : Int} {L : Int → Bool} (h : EndsOk D nx L) : EndsOk D (nx + 1) L := ⟨h.is, fun n hn => by have := h.val n hn; exact ⟨this.1, by omega, this.2.2⟩, h.all⟩
theorem EndsOk.put {D : MapD} {nx : Int} {L : Int → Bool} (h : EndsOk D nx L) (h0 : 0 ≤ nx) : EndsOk (D.put (.int .i64 nx) (num64 1)) (nx + 1) (fun n => L n || n == nx) := by
  refine ⟨h.is.put _ _, fun n hn => ?_, fun n hn => ?_⟩
  · by_cases e : n = nx
    · subst e
      refine ⟨h0, by omega, fun z => ?_⟩
      rw [atKey_put_same h.is (keyLit _)]; simp
    · rw [has_put_other (lit_ne e)] at hn
      obtain ⟨a, b, c⟩ := h.val n hn
      refine ⟨a, by omega, fun z => ?_⟩
      rw [atKey_put_other (lit_ne e), c]; simp [e]
  · by_cases e : n = nx
    · subst e; exact has_put_same h.is (keyLit _) _
    · rw [has_put_other (lit_ne e)]
      refine h.all n ?_
      simpa [e] using hn
theorem EndsOk.drop {D : MapD} {nx : Int} {L : Int → Bool} (h : EndsOk D nx L) (k : Int) (hk : L k = true) : (∀ z, D.atKey (.int .i64 k) z = num64 1) ∧ EndsOk (D.put (.int .i64 k) (num64 2)) nx (fun n => L n && n != k) := by
  obtain ⟨k0, k1, k2⟩ := h.val k (h.all k hk)
  refine ⟨fun z => by rw [k2, hk]; rfl, h.is.put _ _, fun n hn => ?_, fun n hn => ?_⟩
  · by_cases e : n = k
    · subst e
      refine ⟨k0, k1, fun z => ?_⟩
      rw [atKey_put_same h.is (keyLit _)]; simp
    · rw [has_put_other (lit_ne e)] at hn
      obtain ⟨a, b, c⟩ := h.val n hn
      refine ⟨a, b, fun z => ?_⟩
      rw [atKey_put_other (lit_ne e), c]; simp [e]
  · simp only [Bool.and_eq_true, bne_iff_ne] at hn
    rw [has_put_other (lit_ne hn.2)]
    exact h.all n hn.1
theorem EndsOk.congr {D : MapD} {nx : Int} {L L' : Int → Bool} (h : EndsOk D nx L) (e : ∀ n, L n = L' n) : EndsOk D nx L' := by
  have : L = L' := funext e
  subst this; exact h
/-- The numbers of packets. -/
def onWay (ps : List Pcl) (n : Int) : Bool := ps.any fun p => p.1 == n
theorem onWay_iff (ps : List Pcl) (n : Int) : onWay ps n = true ↔ ∃ p ∈ ps, p.1 = n := by simp [onWay]
theorem onWay_snoc (ps : List Pcl) (p : Pcl) (n : Int) : onWay (ps ++ [p]) n = (onWay ps n || n == p.1) := by
  simp [onWay, List.any_append, Bool.beq_comm (a := p.1)]
/-- Those that are struck out, and those that are left. -/
structure Parts (ps q left : List Pcl) : Prop where
  perm : (q ++ left).Perm ps
  nd : (ps.map (·.1)).Nodup
theorem Parts.of_filter {ps : List Pcl} (hd : ps.Pairwise (fun x y => x.1 < y.1)) (f : Pcl → Bool) : Parts ps (ps.filter f) (ps.filter fun p => !f p) :=
  ⟨List.filter_append_perm f ps, List.pairwise_map.2 (hd.imp fun h => by omega)⟩
theorem Parts.two {ps : List Pcl} (hd : ps.Pairwise (fun x y => x.1 < y.1)) (f g : Pcl → Bool) : Parts ps (ps.filter f ++ (ps.filter fun p => !f p).filter g) ((ps.filter fun p => !f p).filter fun p => !g p) := by
  refine ⟨?_, (Parts.of_filter hd f).nd⟩
  rw [List.append_assoc]
  exact ((List.filter_append_perm g (ps.filter fun p => !f p)).append_left _).trans (List.filter_append_perm f ps)
theorem onWay_map (ps : List Pcl) (n : Int) : onWay ps n = true ↔ n ∈ ps.map (·.1) := by
  rw [onWay_iff, List.mem_map]
theorem Parts.nodup {ps q left : List Pcl} (h : Parts ps q left) : ((q ++ left).map (·.1)).Nodup := (h.perm.map _).nodup_iff.2 h.nd
theorem Parts.left_iff {ps q left : List Pcl} (h : Parts ps q left) (n : Int) : (onWay ps n && !onWay q n) = onWay left n := by
  have hm : n ∈ ps.map (·.1) ↔ n ∈ q.map (·.1) ∨ n ∈ left.map (·.1) := by
    rw [← (h.perm.map (·.1)).mem_iff, List.map_append, List.mem_append]
  have hn := h.nodup
  rw [List.map_append, List.nodup_append] at hn
  have hd : n ∈ q.map (·.1) → n ∉ left.map (·.1) := fun h1 h2 => hn.2.2 n h1 n h2 rfl
  rw [Bool.eq_iff_iff, Bool.and_eq_true, Bool.not_eq_true', onWay_map, onWay_map]
  have hq : onWay q n = false ↔ n ∉ q.map (·.1) := by rw [← onWay_map]; simp
  rw [hq, hm]
  constructor
  · rintro ⟨h1 | h1, h2⟩
    · exact absurd h1 h2
    · exact h1
  · intro h1
    exact ⟨.inr h1, fun h2 => hd h2 h1⟩
/-- The j-th one is struck out. -/
theorem EndsOk.strike {D : MapD} {nx : Int} {ps q left : List Pcl} (hp : Parts ps q left) (j : Nat) (hj : j < q.length) (h : EndsOk D nx (fun n => onWay ps n && !onWay (q.take j) n)) :
    (∀ z, D.atKey (.int .i64 (q.getD j pcln).1) z = num64 1) ∧ EndsOk (D.put (.int .i64 (q.getD j pcln).1) (num64 2)) nx (fun n => onWay ps n && !onWay (q.take (j + 1)) n) := by
  have hg : q.getD j pcln = q[j] := by simp [List.getD, hj]
  have hin : onWay ps (q.getD j pcln).1 = true := by
    rw [onWay_map, ← (hp.perm.map (·.1)).mem_iff, hg]
    exact List.mem_map_of_mem (List.mem_append_left _ (List.getElem_mem hj))
  have hnot : onWay (q.take j) (q.getD j pcln).1 = false := by
    cases hc : onWay (q.take j) (q.getD j pcln).1 with
    | false => rfl
    | true =>
      exfalso
      obtain ⟨p, hpm, e⟩ := (onWay_iff _ _).1 hc
      obtain ⟨i, hi, rfl⟩ := List.mem_iff_getElem.1 hpm
      rw [List.length_take] at hi
      have hn := hp.nodup
      rw [List.map_append, List.nodup_append] at hn
      have h2 := List.pairwise_iff_getElem.1 hn.1 i j (by rw [List.length_map]; omega) (by rw [List.length_map]; omega) (by omega)
      apply h2
      simp only [List.getElem_map]
      rw [List.getElem_take] at e
      rw [e, hg]
  obtain ⟨h1, h2⟩ := h.drop (q.getD j pcln).1 (by simp only [hin, hnot]; rfl)
  refine ⟨h1, h2.congr fun n => ?_⟩
  rw [takeD q j pcln hj, onWay_snoc]
  cases onWay ps n <;> cases onWay (q.take j) n <;> simp [bne]
end Go.Proofs.Ytoonohhjcfceeaa
