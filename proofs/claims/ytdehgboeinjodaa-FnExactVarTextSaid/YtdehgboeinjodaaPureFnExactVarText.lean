/- The program's VarText and the reference's give one answer, for every number. -/
import Derived.Test.YtdehgboeinjodaaPFnExactVarTextx1
import Derived.Test.YtdehgboeinjodaaVarLib
namespace Go.Proofs.Ytdehgboeinjodaa.Pure
open Go.RowKit Go.Proofs.Ytdehgboeinjodaa.PFnExactVarText Go.Proofs.YtdehgboeinjodaaW.PrintWords Go.Proofs.YtdehgboeinjodaaW.PrintLast Go.Proofs.Ytdehgboeinjodaa.Lib
namespace VarText
theorem spec_var_l0 (d : Nat) : ∀ (n : Nat) (l : List Int), n < 128 ^ (d + 1) → n ≤ 9223372036854775807 → l.length + d ≤ 1000 →
    Ev (fun k => spec_l01Var.l0 k (n : Int) l) (strOfNums (l ++ varB n)) := by
  induction d with
  | zero =>
    intro n l hn hb hl
    refine Ev.step (fun k => spec_l01Var.l0.eq_2 (n : Int) l k) ?_
    have hn' : n < 128 := by simpa using hn
    have hm : (n : Int) % 256 = n := by omega
    simp only [if_neg (show ¬ (n : Int) > 127 by omega), if_pos (show l.length < 140737488355328 by omega), varB_small hn', hm]
    exact Ev.now _
  | succ d ih =>
    intro n l hn hb hl
    refine Ev.step (fun k => spec_l01Var.l0.eq_2 (n : Int) l k) ?_
    by_cases h : n < 128
    · have hm : (n : Int) % 256 = n := by omega
      simp only [if_neg (show ¬ (n : Int) > 127 by omega), if_pos (show l.length < 140737488355328 by omega), varB_small h, hm]
      exact Ev.now _
    · have hq : n / 128 < 128 ^ (d + 1) := by
        rw [Nat.div_lt_iff_lt_mul (by decide)]
        rw [Nat.pow_succ] at hn
        exact hn
      have ht : Int.tmod (n : Int) 128 = ((n % 128 : Nat) : Int) := by
        rw [Int.tmod_eq_emod_of_nonneg (by omega)]
        omega
      have hdv : wrap64 (Int.tdiv (n : Int) 128) = ((n / 128 : Nat) : Int) := by
        rw [Int.tdiv_eq_ediv_of_nonneg (by omega)]
        unfold wrap64
        omega
      have hby : wrap64 (((n % 128 : Nat) : Int) + 128) % 256 = ((n % 128 + 128 : Nat) : Int) := by
        unfold wrap64
        omega
      simp only [if_pos (show (n : Int) > 127 by omega), if_pos (show l.length < 140737488355328 by omega), varB_great h, ht, hdv, hby]
      have := ih (n / 128) (l ++ [((n % 128 + 128 : Nat) : Int)]) hq (by omega) (by simp only [List.length_append, List.length_cons, List.length_nil]; omega)
      simpa only [List.append_assoc, List.cons_append, List.nil_append] using this
theorem spec_var (n : Nat) (hn : n ≤ 9223372036854775807) : Ev (fun k => spec_l01Var.f k (n : Int)) (strOfNums (varB n)) := by
  unfold spec_l01Var.f
  exact spec_var_l0 9 n [] (Nat.lt_of_le_of_lt hn (by decide)) hn (by decide)
theorem impl_var_l0 (d : Nat) : ∀ (n : Nat) (l : List Int), n < 128 ^ (d + 1) → n ≤ 9223372036854775807 → l.length + d ≤ 1000 →
    Ev (fun k => impl_varText.l0 k (n : Int) l) (strOfNums (l ++ varB n)) := by
  induction d with
  | zero =>
    intro n l hn hb hl
    refine Ev.step (fun k => impl_varText.l0.eq_2 (n : Int) l k) ?_
    have hn' : n < 128 := by simpa using hn
    have hm : (n : Int) % 256 = n := by omega
    simp only [if_neg (show ¬ (n : Int) > 127 by omega), if_pos (show l.length < 140737488355328 by omega), varB_small hn', hm]
    exact Ev.now _
  | succ d ih =>
    intro n l hn hb hl
    refine Ev.step (fun k => impl_varText.l0.eq_2 (n : Int) l k) ?_
    by_cases h : n < 128
    · have hm : (n : Int) % 256 = n := by omega
      simp only [if_neg (show ¬ (n : Int) > 127 by omega), if_pos (show l.length < 140737488355328 by omega), varB_small h, hm]
      exact Ev.now _
    · have hq : n / 128 < 128 ^ (d + 1) := by
        rw [Nat.div_lt_iff_lt_mul (by decide)]
        rw [Nat.pow_succ] at hn
        exact hn
      have ht : Int.tmod (n : Int) 128 = ((n % 128 : Nat) : Int) := by
        rw [Int.tmod_eq_emod_of_nonneg (by omega)]
        omega
      have hdv : wrap64 (Int.tdiv (n : Int) 128) = ((n / 128 : Nat) : Int) := by
        rw [Int.tdiv_eq_ediv_of_nonneg (by omega)]
        unfold wrap64
        omega
      have hby : wrap64 (128 + ((n % 128 : Nat) : Int)) % 256 = ((n % 128 + 128 : Nat) : Int) := by
        unfold wrap64
        omega
      simp only [if_pos (show (n : Int) > 127 by omega), if_pos (show l.length < 140737488355328 by omega), varB_great h, ht, hdv, hby]
      have := ih (n / 128) (l ++ [((n % 128 + 128 : Nat) : Int)]) hq (by omega) (by simp only [List.length_append, List.length_cons, List.length_nil]; omega)
      simpa only [List.append_assoc, List.cons_append, List.nil_append] using this
theorem impl_var (n : Nat) (hn : n ≤ 9223372036854775807) : Ev (fun k => impl_varText.f k (n : Int)) (strOfNums (varB n)) := by
  unfold impl_varText.f
  exact impl_var_l0 9 n [] (Nat.lt_of_le_of_lt hn (by decide)) hn (by decide)
end VarText
theorem FnExactVarText : laws_FnExactVarText.Pure := by
  intro a hw
  refine Ev.rounds ?_
  unfold laws_FnExactVarText.f spec_VarText.f impl_VarText.f spec_l01In.f
  by_cases h0 : a < 0
  · simp only [if_pos h0, if_neg (show ¬ a ≥ 0 by omega), Option.bind_some, Bool.false_eq_true, if_false, if_true, bne_self_eq_false]
    exact Ev.now _
  · by_cases h1 : a > 1000000000
    · simp only [if_neg h0, if_pos h1, if_pos (show a ≥ 0 by omega), Option.bind_some, decide_eq_false (show ¬ a ≤ 1000000000 by omega), Bool.false_eq_true, if_false, if_true, bne_self_eq_false]
      exact Ev.now _
    · obtain ⟨n, rfl⟩ := Int.eq_ofNat_of_zero_le (show 0 ≤ a by omega)
      simp only [if_neg h0, if_neg h1, if_pos (show (n : Int) ≥ 0 by omega), Option.bind_some, decide_eq_true (show (n : Int) ≤ 1000000000 by omega), if_true, Option.bind_assoc]
      refine Ev.bind (VarText.spec_var n (by omega)) ?_
      refine Ev.bind (VarText.impl_var n (by omega)) ?_
      simp only [if_true]
      exact Ev.now _
end Go.Proofs.Ytdehgboeinjodaa.Pure
