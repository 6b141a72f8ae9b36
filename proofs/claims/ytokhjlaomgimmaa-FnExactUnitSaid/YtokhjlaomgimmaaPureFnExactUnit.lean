/- The program's Unit and the reference's give one matrix, for every number, new memory at each call. -/
import Derived.Test.YtokhjlaomgimmaaQFnExactUnitx8
import Derived.Test.YtokhjlaomgimmaaLib
namespace Go.Proofs.Ytokhjlaomgimmaa.Pure
open Go.RowKit Go.Proofs.Ytokhjlaomgimmaa.PFnExactUnit Go.Proofs.YtokhjlaomgimmaaW.PrintWords Go.Proofs.YtokhjlaomgimmaaW.PrintLast Go.Proofs.Ytokhjlaomgimmaa.Lib
theorem unit1 : laws_FnExactUnit.f 200 1 = some true := by decide +kernel
theorem unit2 : laws_FnExactUnit.f 200 2 = some true := by decide +kernel
theorem unit3 : laws_FnExactUnit.f 200 3 = some true := by decide +kernel
theorem unit4 : laws_FnExactUnit.f 200 4 = some true := by decide +kernel
theorem unit5 : laws_FnExactUnit.f 200 5 = some true := by decide +kernel
theorem spec_out (a : Int) (h : a < 1 ∨ 5 < a) (k : Nat) : spec_Unit.f k a = some (0, 0, [], false) := by
  have e : spec_l01In.f a 1 5 = some false := by
    unfold spec_l01In.f
    by_cases h1 : a ≥ 1
    · rw [if_pos h1, decide_eq_false (by omega)]
    · rw [if_neg h1]
  unfold spec_Unit.f
  rw [e]
  rfl
theorem impl_out (a : Int) (h : a < 1 ∨ 5 < a) (k : Nat) : impl_Unit.f k a = some (0, 0, [], false) := by
  have e : impl_isDim.f a = some false := by
    unfold impl_isDim.f impl_inRange.f
    by_cases h1 : a ≥ 1
    · rw [if_pos h1, decide_eq_false (by omega)]
      rfl
    · rw [if_neg h1]
      rfl
  unfold impl_Unit.f
  rw [e]
  rfl
theorem FnExactUnit : laws_FnExactUnit.Pure := by
  intro a _
  by_cases h : a < 1 ∨ 5 < a
  · refine ⟨30, ?_⟩
    unfold laws_FnExactUnit.f
    rw [spec_out a h, impl_out a h]
    have e0 : laws_eqMatrix.f 30 0 0 [] 0 0 [] = some true := by decide +kernel
    have e1 : laws_markMatrix.f 29 0 0 [] 1 = some (1, []) := rfl
    have e2 : laws_heldMatrix.f 29 0 0 [] 1 = some 1 := by decide +kernel
    have e3 : laws_heldMatrix.f 28 0 0 [] 1 = some 1 := by decide +kernel
    have e4 : laws_eqMatrix.f 29 0 0 [] 0 0 [] = some true := by decide +kernel
    simp only [Option.bind_some, e0, if_true]
    rw [show (30 : Nat) = 29 + 1 from rfl, laws_FnExactUnit.j0.eq_2]
    simp only [bne_self_eq_false, Bool.false_eq_true, if_false, e1, Option.bind_some, e2, if_neg (show ¬ (1 : Int) < 0 by omega), if_true, impl_out a h, e4]
    rw [show (29 : Nat) = 28 + 1 from rfl, laws_FnExactUnit.j1.eq_2]
    simp only [Bool.false_eq_true, if_false, e3, Option.bind_some, if_neg (show ¬ (1 : Int) < 0 by omega), if_true]
  · have h' : a = 1 ∨ a = 2 ∨ a = 3 ∨ a = 4 ∨ a = 5 := by omega
    rcases h' with rfl | rfl | rfl | rfl | rfl
    · exact ⟨200, unit1⟩
    · exact ⟨200, unit2⟩
    · exact ⟨200, unit3⟩
    · exact ⟨200, unit4⟩
    · exact ⟨200, unit5⟩
end Go.Proofs.Ytokhjlaomgimmaa.Pure
