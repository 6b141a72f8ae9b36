/- The program's ShapeOf and the reference's give one answer, for every kind and any two shapes. -/
import Derived.Test.YtpcjbnglolfaaaaQFnExactShapeOfx7
import Derived.Test.YtpcjbnglolfaaaaLib
namespace Go.Proofs.Ytpcjbnglolfaaaa.Pure
open Go.RowKit Go.Proofs.Ytpcjbnglolfaaaa.PFnExactShapeOf Go.Proofs.YtpcjbnglolfaaaaW.PrintWords Go.Proofs.YtpcjbnglolfaaaaW.PrintLast Go.Proofs.Ytpcjbnglolfaaaa.Lib
set_option linter.unusedSimpArgs false
set_option linter.unusedVariables false
namespace ShapeOf
theorem spec_in (a b c : Int) : spec_l01In.f a b c = some (decide (b ≤ a ∧ a ≤ c)) := by
  unfold spec_l01In.f
  by_cases h : a ≥ b
  · rw [if_pos h]
    congr 1
    simp only [show b ≤ a from h, true_and]
  · rw [if_neg h, decide_eq_false (by omega)]
theorem impl_in (a b c : Int) : impl_inRange.f a b c = some (decide (b ≤ a ∧ a ≤ c)) := by
  unfold impl_inRange.f
  by_cases h : a ≥ b
  · rw [if_pos h]
    congr 1
    simp only [show b ≤ a from h, true_and]
  · rw [if_neg h, decide_eq_false (by omega)]
def okB (a b : Int) : Bool := decide (1 ≤ a ∧ a ≤ 5) && decide (1 ≤ b ∧ b ≤ 5)
theorem spec_ok (a b : Int) : spec_l12Ok.f a b = some (okB a b) := by
  unfold spec_l12Ok.f okB
  simp only [spec_in, Option.bind_some]
  by_cases h : 1 ≤ a ∧ a ≤ 5 <;> simp [h]
theorem impl_ok (a b : Int) : impl_isShape.f a b = some (okB a b) := by
  unfold impl_isShape.f impl_isDim.f okB
  simp only [impl_in, Option.bind_some]
  by_cases h : 1 ≤ a ∧ a ≤ 5 <;> simp [h]
def oneB (k : Int) : Bool := decide (k = 3) || decide (7 ≤ k ∧ k ≤ 12)
def twoB (k : Int) : Bool := decide (4 ≤ k ∧ k ≤ 6) || (k == 13)
theorem spec_one (k : Int) : spec_l11One.f k = some (oneB k) := by
  unfold spec_l11One.f oneB
  simp only [spec_in, Option.bind_some]
  by_cases h : k = 3 <;> simp [h]
theorem impl_one (k : Int) : impl_isSingle.f k = some (oneB k) := by
  unfold impl_isSingle.f oneB
  simp only [impl_in, Option.bind_some]
  by_cases h : k = 3 <;> simp [h]
theorem spec_two (k : Int) : spec_l11Two.f k = some (twoB k) := by
  unfold spec_l11Two.f twoB
  simp only [spec_in, Option.bind_some]
  by_cases h : 4 ≤ k ∧ k ≤ 6 <;> simp [h]
theorem impl_two (k : Int) : impl_isDouble.f k = some (twoB k) := by
  unfold impl_isDouble.f twoB
  simp only [impl_in, Option.bind_some]
  by_cases h : 4 ≤ k ∧ k ≤ 6 <;> simp [h]
theorem same (K a b c d : Int) : ∃ r, spec_ShapeOf.f 10 K a b c d = some r ∧ impl_ShapeOf.f 10 K a b c d = some r := by
  unfold spec_ShapeOf.f impl_ShapeOf.f
  simp only [spec_one, spec_two, spec_ok, impl_one, Option.bind_some]
  have hK : K = 3 ∨ K = 4 ∨ K = 5 ∨ K = 6 ∨ K = 7 ∨ K = 8 ∨ K = 9 ∨ K = 10 ∨ K = 11 ∨ K = 12 ∨ K = 13 ∨ (oneB K = false ∧ twoB K = false) := by
    by_cases h1 : oneB K = true
    · simp only [oneB, Bool.or_eq_true, decide_eq_true_eq] at h1
      omega
    · by_cases h2 : twoB K = true
      · simp only [twoB, Bool.or_eq_true, decide_eq_true_eq, beq_iff_eq] at h2
        omega
      · simp only [Bool.not_eq_true] at h1 h2
        simp [h1, h2]
  have o3 : oneB 3 = true := by decide
  have o4 : oneB 4 = false := by decide
  have o5 : oneB 5 = false := by decide
  have o6 : oneB 6 = false := by decide
  have o7 : oneB 7 = true := by decide
  have o8 : oneB 8 = true := by decide
  have o9 : oneB 9 = true := by decide
  have o10 : oneB 10 = true := by decide
  have o11 : oneB 11 = true := by decide
  have o12 : oneB 12 = true := by decide
  have o13 : oneB 13 = false := by decide
  have t3 : twoB 3 = false := by decide
  have t4 : twoB 4 = true := by decide
  have t5 : twoB 5 = true := by decide
  have t6 : twoB 6 = true := by decide
  have t7 : twoB 7 = false := by decide
  have t8 : twoB 8 = false := by decide
  have t9 : twoB 9 = false := by decide
  have t10 : twoB 10 = false := by decide
  have t11 : twoB 11 = false := by decide
  have t12 : twoB 12 = false := by decide
  have t13 : twoB 13 = true := by decide
  cases h1 : okB a b <;> cases h2 : okB c d <;> rcases hK with rfl | rfl | rfl | rfl | rfl | rfl | rfl | rfl | rfl | rfl | rfl | ⟨o, t⟩ <;>
    (try simp [o3, o4, o5, o6, o7, o8, o9, o10, o11, o12, o13, t3, t4, t5, t6, t7, t8, t9, t10, t11, t12, t13, h1, h2, spec_ShapeOf.j0, spec_ShapeOf.j1, spec_ShapeOf.j2, spec_ShapeOf.j3, impl_ShapeOf.j0, impl_ShapeOf.j1, impl_shapeOne.f, impl_shapeOne.j0, impl_shapeOne.j1, impl_single.f, impl_shapeTwo.f, impl_shapeTwo.j0, impl_two, impl_ok, spec_l12Mul.f, spec_l12Cell.f, *]) <;>
    (first
      | ((by_cases e : a = b <;> simp [e]); done)
      | ((by_cases e : a = c ∧ b = d <;> simp [e]); done)
      | ((by_cases e : a = c <;> simp [e]); done)
      | (by_cases e1 : a = 1 <;> by_cases e2 : b = 1 <;> by_cases e3 : c = 1 <;> by_cases e4 : d = 1 <;> by_cases e5 : b = c <;> simp_all))
end ShapeOf
open ShapeOf in
theorem FnExactShapeOf (K a b c d : Int) : laws_FnExactShapeOf.f 10 K a b c d = some true := by
  unfold laws_FnExactShapeOf.f laws_toShape.f laws_eqShape.f
  obtain ⟨⟨r1, r2, r3⟩, h1, h2⟩ := same K a b c d
  simp only [Option.bind_some, h1, h2, if_true, bne_self_eq_false, Bool.false_eq_true, if_false]
end Go.Proofs.Ytpcjbnglolfaaaa.Pure
