/- Plain: what gather.Put lays together. -/
import Derived.Test.YtolhlgalhhdkmabGCheckWalk
namespace Go.Proofs.Ytolhlgalhhdkmab
set_option linter.unusedVariables false

/-- New bytes from at_ to to_. -/
def pieceP (data : List UInt8) (off at_ to_ : Int) : List (Int × List UInt8) := if at_ < to_ then [(at_, (data.drop (at_ - off).toNat).take (to_ - at_).toNat)] else []
/-- One piece that is held, and what comes ahead of it. -/
def putStep (data : List UInt8) (off last : Int) (s : Bool × Int × List (Int × List UInt8)) (p : Int × List UInt8) : Bool × Int × List (Int × List UInt8) :=
  let l1 := if s.1 = false ∧ s.2.1 ≤ p.1 then s.2.2 ++ pieceP data off s.2.1 (if last < p.1 then last else p.1) else s.2.2
  let at' := if s.2.1 < p.1 + p.2.length then p.1 + p.2.length else s.2.1
  (s.1 || decide (last ≤ at'), at', l1 ++ [p])
def putFold (data : List UInt8) (off last d : Int) (qs : List (Int × List UInt8)) : Bool × Int × List (Int × List UInt8) := qs.foldl (putStep data off last) (false, if off < d then d else off, [])
def putL (data : List UInt8) (off d : Int) (qs : List (Int × List UInt8)) : List (Int × List UInt8) :=
  (putFold data off (off + data.length) d qs).2.2 ++ pieceP data off (putFold data off (off + data.length) d qs).2.1 (off + data.length)
theorem putFold_snoc (data : List UInt8) (off last d : Int) (qs : List (Int × List UInt8)) (p : Int × List UInt8) : putFold data off last d (qs ++ [p]) = putStep data off last (putFold data off last d qs) p := by simp [putFold]
end Go.Proofs.Ytolhlgalhhdkmab
