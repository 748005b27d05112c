/- The contract of prefix.Decode. -/
import Derived.Test.YtihngonemdaihaaPickWalk
import Derived.Test.YtihngonemdaihaaMem
import Derived.Test.YtihngonemdaihaaPrefix
namespace Go.Proofs.Ytihngonemdaihaa
open Go.ChangeShapes Go.WideShapes Go.ChangeAt Go.RowKit
set_option linter.unusedVariables false

theorem and_127 (d : UInt8) : bits .and .u8 (d.toNat : Int) 127 = ((d.toNat % 128 : Nat) : Int) := by
  have hx : d.toNat % 128 < 256 := by omega
  show IntKind.u8.wrap ((BitVec.ofInt 8 (d.toNat : Int) &&& BitVec.ofInt 8 127).toNat : Int) = _
  rw [BitVec.toNat_and, show (BitVec.ofInt 8 127).toNat = 2 ^ 7 - 1 from by decide, Nat.and_two_pow_sub_one_eq_mod, BitVec.toNat_ofInt]
  have : d.toNat < 256 := d.toNat_lt
  rw [IntKind.wrap_u8]
  omega
theorem wrap_small (e : Nat) (h : e < 128) : wrap64 (e : Int) = (e : Int) := by simp only [wrap64]; omega
theorem shl_k (d k : Nat) (hd : d < 128) (hk : k ≤ 8) : wrap64 ((d : Int) * 2 ^ (7 * k)) = ((d * 2 ^ (7 * k) : Nat) : Int) ∧ d * 2 ^ (7 * k) < 9223372036854775808 := by
  have h1 : d * 2 ^ (7 * k) < 9223372036854775808 := by
    have : 2 ^ (7 * k) ≤ 2 ^ 56 := Nat.pow_le_pow_right (by decide) (by omega)
    calc d * 2 ^ (7 * k) ≤ 127 * 2 ^ 56 := Nat.mul_le_mul (by omega) this
      _ < _ := by decide
  refine ⟨?_, h1⟩
  have h2 : (d : Int) * 2 ^ (7 * k) = ((d * 2 ^ (7 * k) : Nat) : Int) := by simp
  rw [h2]
  generalize d * 2 ^ (7 * k) = X at *
  simp only [wrap64]; omega

set_option maxRecDepth 100000 in
theorem pdec_any (w : Nat) (h1 : 1 ≤ w) (h8 : w ≤ 8) (A : Option Addr) (bs : List UInt8) (len cap : Nat) (hl : bs.length = len) (hcap : len ≤ cap) (hmx : cap ≤ 9223372036854775807) (W : World) (h : RdB W A bs) :
    Calls Try.prog 44 #[.slice A len cap, .int .i64 w] W fun e w' =>
      e = .returned (.tuple #[.int .i64 (pDec w bs).1, .int .i64 (pDec w bs).2.1, .int .i64 (pDec w bs).2.2]) ∧ W = w' := by
  have hT := top_w w h8
  have hp := pow_w w h1 h8
  have HA : Hid (∀ c : UInt8, bits .and .i64 (c.toNat : Int) (((2 ^ w : Nat) : Int) - 1) = ((c.toNat % 2 ^ w : Nat) : Int)) := fun c => and_top c.toNat w h8 c.toNat_lt
  cases bs with
  | nil =>
    obtain rfl : len = 0 := by simpa using hl.symm
    clear HA h
    go_enter Try.func44, Try.ntmps44
    go_wp2_with fail
    go_ret3
    exact ⟨rfl, rfl⟩
  | cons c l =>
    obtain ⟨b, off, rfl, hcell⟩ := h.cell (by simp)
    have hc0 := hcell 0 (by simp)
    have HC := Lib.hid hcell
    have hA := HA.out c
    have hl2 : l.length + 1 = len := by simpa using hl
    simp only [List.getD, List.getElem?_cons_zero, Option.getD_some, Nat.add_zero] at hc0
    obtain ⟨⟨r1, r2, r3⟩, hR⟩ : ∃ r, pDec w (c :: l) = r := ⟨_, rfl⟩
    rw [hR]
    rw [pDec] at hR
    have hz : c.toNat % 2 ^ w < 2 ^ w := Nat.mod_lt _ (by omega)
    have hcb : c.toNat < 256 := c.toNat_lt
    have hq : wrap64 (c.toNat : Int) = (c.toNat : Int) := by simp only [wrap64]; omega
    generalize c.toNat % 2 ^ w = z at *
    generalize 2 ^ w = M at *
    have HR := Lib.hid hR
    clear h hcell hl hR
    by_cases hlt : z < M - 1
    · have hltb : ((z : Int) < (M : Int) - 1) := by omega
      have hR := HR.out
      rw [if_pos hlt] at hR
      injection hR with e1 hR
      injection hR with e2 e3
      subst e1 e2 e3
      clear HC HA HR
      go_enter Try.func44, Try.ntmps44
      go_wp2_with fail
      go_ret3
      exact ⟨rfl, rfl⟩
    · have hzM : (z : Int) = (M : Int) - 1 := by omega
      have HR1 := HR.out
      rw [if_neg hlt] at HR1
      have HR2 : Hid (_ = _) := HR1
      clear HR HR1 HA
      go_enter Try.func44, Try.ntmps44
      go_wp2_with fail
      · rename_i hcp
        have hl1 : len ≤ 1 := by omega
        obtain rfl : l = [] := List.eq_nil_of_length_eq_zero (by omega)
        have hR := HR2.out
        rw [pGo] at hR
        injection hR with e1 hR
        injection hR with e2 e3
        subst e1 e2 e3
        clear HC HR2 hl2 hT hA hzM hq hc0
        go_loopw [36] (fun i wr => i = .int .i64 0 ∧ W = wr) (fun _ _ => 0)
        case atStart => exact ⟨rfl, rfl⟩
        case round =>
          obtain ⟨rfl, rfl⟩ := hrel
          go_wp2_with fail
          go_ret3
          exact ⟨rfl, rfl⟩
      · rename_i hcp
        go_loopw [4, 36] (fun n i wr => ∃ (k y : Nat), i = .int .i64 k ∧ n = .int .i64 y ∧ k + 1 ≤ len ∧ k ≤ 9 ∧ y ≤ 4611686018427387903 ∧ Hid (pGo (l.drop k) k y = (r1, r2, r3)) ∧ W = wr) (fun _ i _ => len - (intOf i).toNat)
        case atStart => exact ⟨0, z, rfl, by congr 1; omega, by omega, by omega, by omega, HR2.out, rfl⟩
        case round =>
          obtain ⟨k, y, rfl, rfl, hk, hk9, hy, HG, rfl⟩ := hrel
          clear hT hA hzM hq hc0 HR2
          by_cases hlt : k + 1 < len
          · have hc := HC.out (k + 1) (by simp; omega)
            have hcons : l.drop k = l.getD k 0 :: l.drop (k + 1) := by
              rw [List.drop_eq_getElem_cons (by omega)]; simp [List.getD, show k < l.length from by omega]
            have HG1 := HG.out
            rw [hcons, pGo] at HG1
            rw [show (c :: l).getD (k + 1) 0 = l.getD k 0 from rfl, show off + (k + 1) = off + 1 + k from by omega] at hc
            generalize l.getD k 0 = d at *
            generalize hl' : l.drop (k + 1) = l' at *
            have HL' := Lib.hid hl'
            clear hl'
            by_cases h9 : k = 9
            · subst h9
              rw [if_pos rfl] at HG1
              injection HG1 with e1 HG1
              injection HG1 with e2 e3
              subst e1 e2 e3
              go_wp2_with fail
              go_ret3
              exact ⟨rfl, rfl⟩
            · rw [if_neg h9] at HG1
              clear hcons HG HC
              have h9b : ((k : Int) == 9) = false := by rw [beq_eq_false_iff_ne]; omega
              have hs1 := and_127 d
              have hs2 := wrap_small (d.toNat % 128) (Nat.mod_lt _ (by decide))
              obtain ⟨hs3, hXb⟩ := shl_k (d.toNat % 128) k (Nat.mod_lt _ (by decide)) (by clear HG1 hs1 hs2; omega)
              have hdb : d.toNat < 256 := d.toNat_lt
              generalize d.toNat % 128 = e at *
              generalize e * 2 ^ (7 * k) = X at *
              by_cases hX : 4611686018427387903 - (y : Int) < (X : Int)
              · rw [if_pos hX] at HG1
                injection HG1 with e1 HG1
                injection HG1 with e2 e3
                subst e1 e2 e3
                go_wp2_with fail
                go_ret3
                exact ⟨rfl, rfl⟩
              · rw [if_neg hX] at HG1
                by_cases hd : d.toNat < 128
                · rw [if_pos hd] at HG1
                  injection HG1 with e1 HG1
                  injection HG1 with e2 e3
                  subst e1 e2 e3
                  go_wp2_with fail
                  go_ret3
                  exact ⟨rfl, rfl⟩
                · rw [if_neg hd] at HG1
                  have HG2 := Lib.hid HG1
                  clear HG1
                  go_wp2_with fail
                  go_roundw
                  case rel => exact ⟨k + 1, y + X, by go_num, by go_num, by omega, by omega, by omega, by show _ = _; rw [Int.natCast_add, HL'.out]; exact HG2.out, trivial⟩
                  case measure => simp [intOf]; omega
          · have HG1 := HG.out
            rw [List.drop_eq_nil_of_le (by omega), pGo] at HG1
            injection HG1 with e1 HG1
            injection HG1 with e2 e3
            subst e1 e2 e3
            clear HG HC
            go_wp2_with fail
            go_ret3
            exact ⟨rfl, rfl⟩
end Go.Proofs.Ytihngonemdaihaa
