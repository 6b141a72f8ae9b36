/- The program's Decimal and the reference's give one text, for every number. -/
import Derived.Test.YtokhjlaomgimmaaDoorQFnExactDecimalx1
import Derived.Test.YtokhjlaomgimmaaDoorDecLib
namespace Go.Proofs.YtokhjlaomgimmaaDoor.Pure
open Go.RowKit Go.Proofs.YtokhjlaomgimmaaDoor.PFnExactDecimal Go.Proofs.YtokhjlaomgimmaaDoorW.PrintWords Go.Proofs.YtokhjlaomgimmaaDoorW.PrintLast Go.Proofs.YtokhjlaomgimmaaDoor.Lib
set_option linter.unusedSimpArgs false
set_option linter.unusedVariables false
namespace Decimal
theorem fig_spec (x : Nat) (h : x < 10) : spec_l01Figure.f (x : Int) = some (48 + (x : Int)) := by
  unfold spec_l01Figure.f
  rw [if_pos (by omega), w64 (by omega) (by omega)]
  congr 1
  omega
/-- The two signs. -/
def signed (neg : Bool) (m : Nat) : Int := if neg = true then -(m : Int) else (m : Int)
theorem dec_l0 (neg : Bool) (d : Nat) : ∀ (m : Nat) (l : List UInt8), m < 10 ^ d → m ≤ 9223372036854775808 → (neg = false → m ≤ 9223372036854775807) → l.length + d ≤ 1000 →
    Ev (fun k => spec_Decimal.l0 k (signed neg m) neg ⟨l.toArray⟩) ⟨((if neg = true then [45] else []) ++ digs m ++ l).toArray⟩ := by
  have base : ∀ l : List UInt8, l.length ≤ 1000 → Ev (fun k => spec_Decimal.l0 k (signed neg 0) neg ⟨l.toArray⟩) ⟨((if neg = true then [45] else []) ++ digs 0 ++ l).toArray⟩ := by
    intro l hl
    refine Ev.step (fun k => spec_Decimal.l0.eq_2 (signed neg 0) neg ⟨l.toArray⟩ k) ?_
    have e : signed neg 0 = 0 := by
      unfold signed
      cases neg <;> rfl
    have hz : 1 + (⟨l.toArray⟩ : ByteArray).size ≤ 9223372036854775807 := by
      rw [size_mk]
      omega
    simp only [e, if_true, if_pos hz]
    cases neg
    · simp only [Bool.false_eq_true, if_false, digs, if_true, List.nil_append]
      exact Ev.now _
    · simp only [if_true, digs]
      rw [show ((⟨#[45]⟩ : ByteArray) ++ ⟨l.toArray⟩) = ⟨([45] ++ [] ++ l).toArray⟩ by
        rw [append_mk]
        rw [ByteArray.toList_eq]
        rfl]
      exact Ev.now _
  induction d with
  | zero =>
    intro m l hm _ _ hl
    obtain rfl : m = 0 := by simpa using hm
    exact base l (by omega)
  | succ d ih =>
    intro m l hm h63 hpos hl
    by_cases h0 : m = 0
    · subst h0
      exact base l (by omega)
    · refine Ev.step (fun k => spec_Decimal.l0.eq_2 (signed neg m) neg ⟨l.toArray⟩ k) ?_
      have hne : signed neg m ≠ 0 := by
        unfold signed
        split <;> omega
      have hq : m / 10 < 10 ^ d := by
        rw [Nat.div_lt_iff_lt_mul (by decide)]
        rw [Nat.pow_succ] at hm
        exact hm
      have hdv : wrap64 (Int.tdiv (signed neg m) 10) = signed neg (m / 10) := by
        unfold signed
        cases neg
        · simp only [Bool.false_eq_true, if_false]
          rw [Int.tdiv_eq_ediv_of_nonneg (by omega)]
          have := hpos rfl
          unfold wrap64
          omega
        · simp only [if_true]
          rw [Int.neg_tdiv, Int.tdiv_eq_ediv_of_nonneg (by omega)]
          unfold wrap64
          omega
      have hz : (strOfNums [(48 : Int) + ((m % 10 : Nat) : Int)]).size + (⟨l.toArray⟩ : ByteArray).size ≤ 9223372036854775807 := by
        rw [strOfNums_size, size_mk]
        simp only [List.length_cons, List.length_nil]
        omega
      have hap : strOfNums [(48 : Int) + ((m % 10 : Nat) : Int)] ++ (⟨l.toArray⟩ : ByteArray) = ⟨((UInt8.ofNat (48 + m % 10)) :: l).toArray⟩ := by
        rw [append_mk, strOfNums_toList]
        congr 2
      have IH := ih (m / 10) (UInt8.ofNat (48 + m % 10) :: l) hq (by omega) (fun h => by have := hpos h; omega) (by simp only [List.length_cons]; omega)
      have hres : ((if neg = true then [45] else []) ++ digs (m / 10) ++ UInt8.ofNat (48 + m % 10) :: l) = ((if neg = true then [45] else []) ++ digs m ++ l) := by
        rw [digs_step h0]
        simp only [List.append_assoc, List.cons_append, List.nil_append]
      rw [hres] at IH
      simp only [if_neg hne, hdv]
      by_cases hn : Int.tmod (signed neg m) 10 < 0
      · have ht : wrap64 (-(Int.tmod (signed neg m) 10)) = ((m % 10 : Nat) : Int) := by
          unfold signed at hn ⊢
          cases neg
          · simp only [Bool.false_eq_true, if_false] at hn
            rw [Int.tmod_eq_emod_of_nonneg (by omega)] at hn
            omega
          · simp only [if_true]
            rw [Int.neg_tmod, Int.tmod_eq_emod_of_nonneg (by omega)]
            unfold wrap64
            omega
        simp only [if_pos hn, ht, fig_spec _ (show m % 10 < 10 by omega), Option.bind_some, if_pos hz, hap]
        exact IH
      · have ht : Int.tmod (signed neg m) 10 = ((m % 10 : Nat) : Int) := by
          unfold signed at hn ⊢
          cases neg
          · simp only [Bool.false_eq_true, if_false]
            rw [Int.tmod_eq_emod_of_nonneg (by omega)]
            omega
          · simp only [if_true] at hn ⊢
            rw [Int.neg_tmod, Int.tmod_eq_emod_of_nonneg (by omega)] at hn ⊢
            omega
        simp only [if_neg hn, ht, fig_spec _ (show m % 10 < 10 by omega), Option.bind_some, if_pos hz, hap]
        exact IH
theorem spec_dec (n : Int) (h0 : -9223372036854775808 ≤ n) (h1 : n ≤ 9223372036854775807) : Ev (fun k => spec_Decimal.f k n) ⟨(Lib.itoa n).toArray⟩ := by
  have e0 : (⟨#[]⟩ : ByteArray) = ⟨([] : List UInt8).toArray⟩ := rfl
  unfold spec_Decimal.f
  by_cases hz : n = 0
  · subst hz
    simp only [if_true, itoa_zero]
    exact Ev.now _
  · simp only [if_neg hz]
    by_cases hn : n < 0
    · obtain ⟨m, rfl⟩ : ∃ m : Nat, n = -(m : Int) := ⟨n.natAbs, by omega⟩
      have := dec_l0 true 19 m [] (by omega) (by omega) (fun h => by cases h) (by decide)
      rw [itoa_neg m (by omega)]
      simpa only [signed, if_true, decide_eq_true hn, e0, List.append_nil, List.cons_append, List.nil_append] using this
    · obtain ⟨m, rfl⟩ := Int.eq_ofNat_of_zero_le (show 0 ≤ n by omega)
      have := dec_l0 false 19 m [] (by omega) (by omega) (fun _ => by omega) (by decide)
      rw [itoa_pos m (by omega)]
      simpa only [signed, Bool.false_eq_true, if_false, decide_eq_false hn, e0, List.append_nil, List.nil_append] using this
end Decimal
theorem FnExactDecimal : laws_FnExactDecimal.Pure := by
  intro n hw
  have hr : -9223372036854775808 ≤ n ∧ n ≤ 9223372036854775807 := by
    simpa [Lit.wf, IntKind.min, IntKind.max, IntKind.signed, IntKind.bits] using hw
  refine Ev.rounds ?_
  unfold laws_FnExactDecimal.f impl_Decimal.f strconv_Itoa_48.f itoaF
  refine Ev.bind (Decimal.spec_dec n hr.1 hr.2) ?_
  simp only [if_pos hr, Option.bind_some, if_true]
  exact Ev.now _
end Go.Proofs.YtokhjlaomgimmaaDoor.Pure
