/- The lowest eight bits of a number. -/
import Derived.Test.YtpcjbnglolfaaaaLib
import Derived.Laws.BitsLemmas
namespace Go.Proofs.Ytpcjbnglolfaaaa.Lib
open Go.RowKit Go.Proofs.YtpcjbnglolfaaaaW.PrintWords
theorem and255 (a : Int) : 0 ≤ bits .and .i64 a 255 ∧ bits .and .i64 a 255 ≤ 255 := by
  have e : bits .and .i64 a 255 = IntKind.i64.wrap (((BitVec.ofInt 64 a &&& BitVec.ofInt 64 255).toNat : Nat) : Int) := rfl
  have h : (BitVec.ofInt 64 a &&& BitVec.ofInt 64 255).toNat ≤ 255 := by
    rw [BitVec.toNat_and]
    exact Nat.le_trans Nat.and_le_right (by decide)
  rw [e, IntKind.wrap_i64]
  omega
end Go.Proofs.Ytpcjbnglolfaaaa.Lib
