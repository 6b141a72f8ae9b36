/- The bytes of a number, seven bits a byte, as plain arithmetic. -/
import Derived.Test.YtpcjbnglolfaaaaDoorLib
namespace Go.Proofs.YtpcjbnglolfaaaaDoor.Lib
open Go.RowKit Go.Proofs.YtpcjbnglolfaaaaDoorW.PrintWords

def varB (n : Nat) : List Int := if n < 128 then [(n : Int)] else ((n % 128 + 128 : Nat) : Int) :: varB (n / 128)
theorem varB_small {n : Nat} (h : n < 128) : varB n = [(n : Int)] := by rw [varB, if_pos h]
theorem varB_great {n : Nat} (h : ¬ n < 128) : varB n = ((n % 128 + 128 : Nat) : Int) :: varB (n / 128) := by rw [varB, if_neg h]
theorem varB_length (d : Nat) : ∀ n : Nat, n < 128 ^ (d + 1) → (varB n).length ≤ d + 1 := by
  induction d with
  | zero => intro n hn; rw [varB_small (by simpa using hn)]; simp
  | succ d ih =>
    intro n hn
    by_cases h : n < 128
    · rw [varB_small h]; simp
    · rw [varB_great h]
      have := ih (n / 128) (by rw [Nat.div_lt_iff_lt_mul (by decide)]; rw [Nat.pow_succ] at hn; exact hn)
      simp only [List.length_cons]
      omega
end Go.Proofs.YtpcjbnglolfaaaaDoor.Lib
