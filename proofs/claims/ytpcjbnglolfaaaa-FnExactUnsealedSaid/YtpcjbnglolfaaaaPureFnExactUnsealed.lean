/- The program's Unsealed and the reference's give one answer, for every text. -/
import Derived.Test.YtpcjbnglolfaaaaPFnExactUnsealedx3
import Derived.Test.YtpcjbnglolfaaaaSumLib
import Derived.Test.YtpcjbnglolfaaaaBytes
namespace Go.Proofs.Ytpcjbnglolfaaaa.Pure
open Go.RowKit Go.Proofs.Ytpcjbnglolfaaaa.PFnExactUnsealed Go.Proofs.YtpcjbnglolfaaaaW.PrintWords Go.Proofs.YtpcjbnglolfaaaaW.PrintLast Go.Proofs.Ytpcjbnglolfaaaa.Lib
set_option linter.unusedSimpArgs false
set_option linter.unusedVariables false
namespace Unsealed
theorem spec_l1 (s : ByteArray) (i : Int) (r : Int) (n : Nat) : ∀ (x j : Int), 0 ≤ j → j + n = 8 → 0 ≤ x → x < 4294967296 →
    Ev (fun k => spec_SumMore.l0 k (bitN n x) s (wrap64 (i + 1))) r → Ev (fun k => spec_SumMore.l1 k x s i j) r := by
  induction n with
  | zero =>
    intro x j hj hn h0 h1 H
    refine Ev.step (fun k => spec_SumMore.l1.eq_2 x s i j k) ?_
    simp only [if_neg (show ¬ j < 8 by omega)]
    exact H
  | succ n ih =>
    intro x j hj hn h0 h1 H
    refine Ev.step (fun k => spec_SumMore.l1.eq_2 x s i j k) ?_
    have hb := bit1_range h0 h1
    have ht : Int.tmod x 2 = x % 2 := Int.tmod_eq_emod_of_nonneg h0
    have hd : Int.tdiv x 2 % 4294967296 = x / 2 := by
      rw [Int.tdiv_eq_ediv_of_nonneg h0]
      omega
    simp only [if_pos (show j < 8 by omega), ht, hd, w64 (show -9223372036854775808 ≤ j + 1 by omega) (show j + 1 ≤ 9223372036854775807 by omega)]
    have H' := ih (bit1 x) (j + 1) (by omega) (by omega) hb.1 hb.2 H
    by_cases hx : x % 2 = 1
    · simp only [if_pos hx]
      simpa only [bit1, if_pos hx] using H'
    · simp only [if_neg hx]
      simpa only [bit1, if_neg hx] using H'
theorem spec_l0 (s : ByteArray) (hs : s.size ≤ 140737488351232) (n : Nat) : ∀ (i x : Int), 0 ≤ i → i + n = s.size → 0 ≤ x → x < 4294967296 →
    Ev (fun k => spec_SumMore.l0 k x s i) (sumN s n i x) := by
  induction n with
  | zero =>
    intro i x hi hn h0 h1
    refine Ev.step (fun k => spec_SumMore.l0.eq_2 x s i k) ?_
    simp only [if_neg (show ¬ i < (s.size : Int) by omega)]
    exact Ev.now _
  | succ n ih =>
    intro i x hi hn h0 h1
    refine Ev.step (fun k => spec_SumMore.l0.eq_2 x s i k) ?_
    simp only [if_pos (show i < (s.size : Int) by omega), if_pos hi]
    refine spec_l1 s i _ 8 _ 0 (by omega) (by omega) (xor_u32 _ _).1 (xor_u32 _ _).2 ?_
    rw [w64 (by omega) (by omega)]
    exact ih (i + 1) _ (by omega) (by omega) (byte1_range s i x).1 (byte1_range s i x).2
theorem spec_sum (s : ByteArray) (hs : s.size ≤ 140737488351232) (x : Int) (h0 : 0 ≤ x) (h1 : x < 4294967296) : Ev (fun k => spec_SumMore.f k x s) (sumN s s.size 0 x) := by
  unfold spec_SumMore.f
  exact spec_l0 s hs s.size 0 x (by omega) (by omega) h0 h1
theorem impl_l1 (s : ByteArray) (i : Int) (r : Int) (n : Nat) : ∀ (x j : Int), 0 ≤ j → j + n = 8 → 0 ≤ x → x < 4294967296 →
    Ev (fun k => impl_SumMore.l0 k (bitN n x) s (wrap64 (i + 1))) r → Ev (fun k => impl_SumMore.l1 k x s i j) r := by
  induction n with
  | zero =>
    intro x j hj hn h0 h1 H
    refine Ev.step (fun k => impl_SumMore.l1.eq_2 x s i j k) ?_
    simp only [if_neg (show ¬ j < 8 by omega)]
    exact H
  | succ n ih =>
    intro x j hj hn h0 h1 H
    refine Ev.step (fun k => impl_SumMore.l1.eq_2 x s i j k) ?_
    have hb := bit1_range h0 h1
    simp only [if_pos (show j < 8 by omega), and1_u32 h0 h1, w64 (show -9223372036854775808 ≤ j + 1 by omega) (show j + 1 ≤ 9223372036854775807 by omega)]
    have H' := ih (bit1 x) (j + 1) (by omega) (by omega) hb.1 hb.2 H
    by_cases hx : x % 2 = 1
    · simp only [if_pos hx]
      simpa only [bit1, if_pos hx] using H'
    · simp only [if_neg hx]
      simpa only [bit1, if_neg hx] using H'
theorem impl_l0 (s : ByteArray) (hs : s.size ≤ 140737488351232) (n : Nat) : ∀ (i x : Int), 0 ≤ i → i + n = s.size → 0 ≤ x → x < 4294967296 →
    Ev (fun k => impl_SumMore.l0 k x s i) (sumN s n i x) := by
  induction n with
  | zero =>
    intro i x hi hn h0 h1
    refine Ev.step (fun k => impl_SumMore.l0.eq_2 x s i k) ?_
    simp only [if_neg (show ¬ i < (s.size : Int) by omega)]
    exact Ev.now _
  | succ n ih =>
    intro i x hi hn h0 h1
    refine Ev.step (fun k => impl_SumMore.l0.eq_2 x s i k) ?_
    simp only [if_pos (show i < (s.size : Int) by omega), if_pos hi]
    refine impl_l1 s i _ 8 _ 0 (by omega) (by omega) (xor_u32 _ _).1 (xor_u32 _ _).2 ?_
    rw [w64 (by omega) (by omega)]
    exact ih (i + 1) _ (by omega) (by omega) (byte1_range s i x).1 (byte1_range s i x).2
theorem impl_sum (s : ByteArray) (hs : s.size ≤ 140737488351232) (x : Int) (h0 : 0 ≤ x) (h1 : x < 4294967296) : Ev (fun k => impl_SumMore.f k x s) (sumN s s.size 0 x) := by
  unfold impl_SumMore.f
  exact impl_l0 s hs s.size 0 x (by omega) (by omega) h0 h1
theorem spec_of (s : ByteArray) (hs : s.size ≤ 140737488351232) : Ev (fun k => spec_SumOf.f k s) (sumN s s.size 0 4294967295) := by
  unfold spec_SumOf.f
  exact Ev.bind (spec_sum s hs 4294967295 (by omega) (by omega)) (Ev.now _)
theorem impl_of (s : ByteArray) (hs : s.size ≤ 140737488351232) : Ev (fun k => impl_SumOf.f k s) (sumN s s.size 0 4294967295) := by
  unfold impl_SumOf.f
  exact Ev.bind (impl_sum s hs 4294967295 (by omega) (by omega)) (Ev.now _)
end Unsealed
theorem FnExactUnsealed : laws_FnExactUnsealed.Pure := by
  intro s hs
  refine Ev.rounds ?_
  unfold laws_FnExactUnsealed.f
  by_cases hb : (s.size : Int) > 1048576
  · simp only [if_pos hb]
    exact Ev.now _
  · simp only [if_neg hb]
    unfold spec_Unsealed.f impl_Unsealed.f impl_sumText.f spec_l02Four.f
    have e : wrap64 ((s.size : Int) - 4) = (s.size : Int) - 4 := w64 (by omega) (by omega)
    simp only [e]
    by_cases h0 : (s.size : Int) - 4 < 0
    · simp only [if_pos h0, Option.bind_some, if_true, bne_self_eq_false, Bool.false_eq_true, if_false]
      exact Ev.now _
    · by_cases h1 : (s.size : Int) - 4 > 12000
      · simp only [if_neg h0, if_pos h1, Option.bind_some, if_true, bne_self_eq_false, Bool.false_eq_true, if_false]
        exact Ev.now _
      · simp only [if_neg h0, if_neg h1, if_pos (show 0 ≤ (s.size : Int) - 4 by omega), if_pos (show (s.size : Int) - 4 ≤ (s.size : Int) by omega), Option.bind_some, Option.bind_assoc]
        have hz : (s.extract 0 ((s.size : Int) - 4).toNat).size ≤ 140737488351232 := by
          rw [ext_size _ _ _ (by omega)]
          omega
        refine Ev.bind (Unsealed.spec_of _ hz) ?_
        by_cases hx : (s.extract ((s.size : Int) - 4).toNat s.size).toList = (strOfNums [sumN (s.extract 0 ((s.size : Int) - 4).toNat) (s.extract 0 ((s.size : Int) - 4).toNat).size 0 4294967295 / 16777216 % 256, sumN (s.extract 0 ((s.size : Int) - 4).toNat) (s.extract 0 ((s.size : Int) - 4).toNat).size 0 4294967295 / 65536 % 256, sumN (s.extract 0 ((s.size : Int) - 4).toNat) (s.extract 0 ((s.size : Int) - 4).toNat).size 0 4294967295 / 256 % 256, sumN (s.extract 0 ((s.size : Int) - 4).toNat) (s.extract 0 ((s.size : Int) - 4).toNat).size 0 4294967295 % 256]).toList
        · simp only [if_pos hx, Option.bind_some]
          refine Ev.bind (Unsealed.impl_of _ hz) ?_
          simp only [if_pos hx.symm, Option.bind_some, if_true, bne_self_eq_false, Bool.false_eq_true, if_false]
          exact Ev.now _
        · simp only [if_neg hx, Option.bind_some]
          refine Ev.bind (Unsealed.impl_of _ hz) ?_
          simp only [if_neg (fun h => hx (Eq.symm h)), Option.bind_some, if_true, bne_self_eq_false, Bool.false_eq_true, if_false]
          exact Ev.now _
end Go.Proofs.Ytpcjbnglolfaaaa.Pure
