/- The program's ShortText and the reference's give one answer, for every text. -/
import Derived.Test.YtdehgboeinjodaaPFnExactShortTextx1
import Derived.Test.YtdehgboeinjodaaVarLib
namespace Go.Proofs.Ytdehgboeinjodaa.Pure
open Go.RowKit Go.Proofs.Ytdehgboeinjodaa.PFnExactShortText Go.Proofs.YtdehgboeinjodaaW.PrintWords Go.Proofs.YtdehgboeinjodaaW.PrintLast Go.Proofs.Ytdehgboeinjodaa.Lib
namespace ShortText
theorem spec_var_l0 (d : Nat) : ∀ (n : Nat) (l : List Int), n < 128 ^ (d + 1) → n ≤ 9223372036854775807 → l.length + d ≤ 1000 →
    Ev (fun k => spec_l01Var.l0 k (n : Int) l) (strOfNums (l ++ varB n)) := by
  induction d with
  | zero =>
    intro n l hn hb hl
    refine Ev.step (fun k => spec_l01Var.l0.eq_2 (n : Int) l k) ?_
    have hn' : n < 128 := by simpa using hn
    have hm : (n : Int) % 256 = n := by omega
    simp only [if_neg (show ¬ (n : Int) > 127 by omega), if_pos (show l.length < 140737488355328 by omega), varB_small hn', hm]
    exact Ev.now _
  | succ d ih =>
    intro n l hn hb hl
    refine Ev.step (fun k => spec_l01Var.l0.eq_2 (n : Int) l k) ?_
    by_cases h : n < 128
    · have hm : (n : Int) % 256 = n := by omega
      simp only [if_neg (show ¬ (n : Int) > 127 by omega), if_pos (show l.length < 140737488355328 by omega), varB_small h, hm]
      exact Ev.now _
    · have hq : n / 128 < 128 ^ (d + 1) := by
        rw [Nat.div_lt_iff_lt_mul (by decide)]
        rw [Nat.pow_succ] at hn
        exact hn
      have ht : Int.tmod (n : Int) 128 = ((n % 128 : Nat) : Int) := by
        rw [Int.tmod_eq_emod_of_nonneg (by omega)]
        omega
      have hdv : wrap64 (Int.tdiv (n : Int) 128) = ((n / 128 : Nat) : Int) := by
        rw [Int.tdiv_eq_ediv_of_nonneg (by omega)]
        unfold wrap64
        omega
      have hby : wrap64 (((n % 128 : Nat) : Int) + 128) % 256 = ((n % 128 + 128 : Nat) : Int) := by
        unfold wrap64
        omega
      simp only [if_pos (show (n : Int) > 127 by omega), if_pos (show l.length < 140737488355328 by omega), varB_great h, ht, hdv, hby]
      have := ih (n / 128) (l ++ [((n % 128 + 128 : Nat) : Int)]) hq (by omega) (by simp only [List.length_append, List.length_cons, List.length_nil]; omega)
      simpa only [List.append_assoc, List.cons_append, List.nil_append] using this
theorem spec_var (n : Nat) (hn : n ≤ 9223372036854775807) : Ev (fun k => spec_l01Var.f k (n : Int)) (strOfNums (varB n)) := by
  unfold spec_l01Var.f
  exact spec_var_l0 9 n [] (Nat.lt_of_le_of_lt hn (by decide)) hn (by decide)
theorem impl_var_l0 (d : Nat) : ∀ (n : Nat) (l : List Int), n < 128 ^ (d + 1) → n ≤ 9223372036854775807 → l.length + d ≤ 1000 →
    Ev (fun k => impl_varText.l0 k (n : Int) l) (strOfNums (l ++ varB n)) := by
  induction d with
  | zero =>
    intro n l hn hb hl
    refine Ev.step (fun k => impl_varText.l0.eq_2 (n : Int) l k) ?_
    have hn' : n < 128 := by simpa using hn
    have hm : (n : Int) % 256 = n := by omega
    simp only [if_neg (show ¬ (n : Int) > 127 by omega), if_pos (show l.length < 140737488355328 by omega), varB_small hn', hm]
    exact Ev.now _
  | succ d ih =>
    intro n l hn hb hl
    refine Ev.step (fun k => impl_varText.l0.eq_2 (n : Int) l k) ?_
    by_cases h : n < 128
    · have hm : (n : Int) % 256 = n := by omega
      simp only [if_neg (show ¬ (n : Int) > 127 by omega), if_pos (show l.length < 140737488355328 by omega), varB_small h, hm]
      exact Ev.now _
    · have hq : n / 128 < 128 ^ (d + 1) := by
        rw [Nat.div_lt_iff_lt_mul (by decide)]
        rw [Nat.pow_succ] at hn
        exact hn
      have ht : Int.tmod (n : Int) 128 = ((n % 128 : Nat) : Int) := by
        rw [Int.tmod_eq_emod_of_nonneg (by omega)]
        omega
      have hdv : wrap64 (Int.tdiv (n : Int) 128) = ((n / 128 : Nat) : Int) := by
        rw [Int.tdiv_eq_ediv_of_nonneg (by omega)]
        unfold wrap64
        omega
      have hby : wrap64 (128 + ((n % 128 : Nat) : Int)) % 256 = ((n % 128 + 128 : Nat) : Int) := by
        unfold wrap64
        omega
      simp only [if_pos (show (n : Int) > 127 by omega), if_pos (show l.length < 140737488355328 by omega), varB_great h, ht, hdv, hby]
      have := ih (n / 128) (l ++ [((n % 128 + 128 : Nat) : Int)]) hq (by omega) (by simp only [List.length_append, List.length_cons, List.length_nil]; omega)
      simpa only [List.append_assoc, List.cons_append, List.nil_append] using this
theorem impl_var (n : Nat) (hn : n ≤ 9223372036854775807) : Ev (fun k => impl_varText.f k (n : Int)) (strOfNums (varB n)) := by
  unfold impl_varText.f
  exact impl_var_l0 9 n [] (Nat.lt_of_le_of_lt hn (by decide)) hn (by decide)
end ShortText
theorem FnExactShortText : laws_FnExactShortText.Pure := by
  intro s hs
  refine Ev.rounds ?_
  unfold laws_FnExactShortText.f
  by_cases hb : (s.size : Int) > 1048576
  · simp only [if_pos hb]
    exact Ev.now _
  · simp only [if_neg hb]
    unfold spec_ShortText.f impl_ShortText.f
    by_cases h : (s.size : Int) > 12000
    · simp only [if_pos h, Option.bind_some]
      exact Ev.now _
    · have hl : (strOfNums (varB s.size)).size + s.size ≤ 9223372036854775807 := by
        rw [strOfNums_size]
        have := varB_length 1 s.size (by omega)
        omega
      simp only [if_neg h, Option.bind_assoc]
      refine Ev.bind (ShortText.spec_var s.size (by omega)) ?_
      simp only [if_pos hl, Option.bind_some]
      refine Ev.bind (ShortText.impl_var s.size (by omega)) ?_
      simp only [if_pos hl, Option.bind_some, if_true]
      exact Ev.now _
end Go.Proofs.Ytdehgboeinjodaa.Pure
