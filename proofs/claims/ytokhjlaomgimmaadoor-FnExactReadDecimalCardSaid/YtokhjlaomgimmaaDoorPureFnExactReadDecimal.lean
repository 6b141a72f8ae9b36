/- The program's ReadDecimal and the reference's give one answer, for every text. -/
import Derived.Test.YtokhjlaomgimmaaDoorQFnExactReadDecimalx2
import Derived.Test.YtokhjlaomgimmaaDoorDecLib
namespace Go.Proofs.YtokhjlaomgimmaaDoor.Pure
open Go.RowKit Go.Proofs.YtokhjlaomgimmaaDoor.PFnExactReadDecimal Go.Proofs.YtokhjlaomgimmaaDoorW.PrintWords Go.Proofs.YtokhjlaomgimmaaDoorW.PrintLast Go.Proofs.YtokhjlaomgimmaaDoor.Lib
set_option linter.unusedSimpArgs false
set_option linter.unusedVariables false
namespace ReadDecimal
theorem fig_spec (x : Nat) (h : x < 10) : spec_l01Figure.f (x : Int) = some (48 + (x : Int)) := by
  unfold spec_l01Figure.f
  rw [if_pos (by omega), w64 (by omega) (by omega)]
  congr 1
  omega
/-- The two signs. -/
def signed (neg : Bool) (m : Nat) : Int := if neg = true then -(m : Int) else (m : Int)
theorem dec_l0 (neg : Bool) (d : Nat) : ∀ (m : Nat) (l : List UInt8), m < 10 ^ d → m ≤ 9223372036854775808 → (neg = false → m ≤ 9223372036854775807) → l.length + d ≤ 1000 →
    Ev (fun k => spec_Decimal.l0 k (signed neg m) neg ⟨l.toArray⟩) ⟨((if neg = true then [45] else []) ++ digs m ++ l).toArray⟩ := by
  have base : ∀ l : List UInt8, l.length ≤ 1000 → Ev (fun k => spec_Decimal.l0 k (signed neg 0) neg ⟨l.toArray⟩) ⟨((if neg = true then [45] else []) ++ digs 0 ++ l).toArray⟩ := by
    intro l hl
    refine Ev.step (fun k => spec_Decimal.l0.eq_2 (signed neg 0) neg ⟨l.toArray⟩ k) ?_
    have e : signed neg 0 = 0 := by
      unfold signed
      cases neg <;> rfl
    have hz : 1 + (⟨l.toArray⟩ : ByteArray).size ≤ 9223372036854775807 := by
      rw [size_mk]
      omega
    simp only [e, if_true, if_pos hz]
    cases neg
    · simp only [Bool.false_eq_true, if_false, digs, if_true, List.nil_append]
      exact Ev.now _
    · simp only [if_true, digs]
      rw [show ((⟨#[45]⟩ : ByteArray) ++ ⟨l.toArray⟩) = ⟨([45] ++ [] ++ l).toArray⟩ by
        rw [append_mk]
        rw [ByteArray.toList_eq]
        rfl]
      exact Ev.now _
  induction d with
  | zero =>
    intro m l hm _ _ hl
    obtain rfl : m = 0 := by simpa using hm
    exact base l (by omega)
  | succ d ih =>
    intro m l hm h63 hpos hl
    by_cases h0 : m = 0
    · subst h0
      exact base l (by omega)
    · refine Ev.step (fun k => spec_Decimal.l0.eq_2 (signed neg m) neg ⟨l.toArray⟩ k) ?_
      have hne : signed neg m ≠ 0 := by
        unfold signed
        split <;> omega
      have hq : m / 10 < 10 ^ d := by
        rw [Nat.div_lt_iff_lt_mul (by decide)]
        rw [Nat.pow_succ] at hm
        exact hm
      have hdv : wrap64 (Int.tdiv (signed neg m) 10) = signed neg (m / 10) := by
        unfold signed
        cases neg
        · simp only [Bool.false_eq_true, if_false]
          rw [Int.tdiv_eq_ediv_of_nonneg (by omega)]
          have := hpos rfl
          unfold wrap64
          omega
        · simp only [if_true]
          rw [Int.neg_tdiv, Int.tdiv_eq_ediv_of_nonneg (by omega)]
          unfold wrap64
          omega
      have hz : (strOfNums [(48 : Int) + ((m % 10 : Nat) : Int)]).size + (⟨l.toArray⟩ : ByteArray).size ≤ 9223372036854775807 := by
        rw [strOfNums_size, size_mk]
        simp only [List.length_cons, List.length_nil]
        omega
      have hap : strOfNums [(48 : Int) + ((m % 10 : Nat) : Int)] ++ (⟨l.toArray⟩ : ByteArray) = ⟨((UInt8.ofNat (48 + m % 10)) :: l).toArray⟩ := by
        rw [append_mk, strOfNums_toList]
        congr 2
      have IH := ih (m / 10) (UInt8.ofNat (48 + m % 10) :: l) hq (by omega) (fun h => by have := hpos h; omega) (by simp only [List.length_cons]; omega)
      have hres : ((if neg = true then [45] else []) ++ digs (m / 10) ++ UInt8.ofNat (48 + m % 10) :: l) = ((if neg = true then [45] else []) ++ digs m ++ l) := by
        rw [digs_step h0]
        simp only [List.append_assoc, List.cons_append, List.nil_append]
      rw [hres] at IH
      simp only [if_neg hne, hdv]
      by_cases hn : Int.tmod (signed neg m) 10 < 0
      · have ht : wrap64 (-(Int.tmod (signed neg m) 10)) = ((m % 10 : Nat) : Int) := by
          unfold signed at hn ⊢
          cases neg
          · simp only [Bool.false_eq_true, if_false] at hn
            rw [Int.tmod_eq_emod_of_nonneg (by omega)] at hn
            omega
          · simp only [if_true]
            rw [Int.neg_tmod, Int.tmod_eq_emod_of_nonneg (by omega)]
            unfold wrap64
            omega
        simp only [if_pos hn, ht, fig_spec _ (show m % 10 < 10 by omega), Option.bind_some, if_pos hz, hap]
        exact IH
      · have ht : Int.tmod (signed neg m) 10 = ((m % 10 : Nat) : Int) := by
          unfold signed at hn ⊢
          cases neg
          · simp only [Bool.false_eq_true, if_false]
            rw [Int.tmod_eq_emod_of_nonneg (by omega)]
            omega
          · simp only [if_true] at hn ⊢
            rw [Int.neg_tmod, Int.tmod_eq_emod_of_nonneg (by omega)] at hn ⊢
            omega
        simp only [if_neg hn, ht, fig_spec _ (show m % 10 < 10 by omega), Option.bind_some, if_pos hz, hap]
        exact IH
theorem spec_dec (n : Int) (h0 : -9223372036854775808 ≤ n) (h1 : n ≤ 9223372036854775807) : Ev (fun k => spec_Decimal.f k n) ⟨(Lib.itoa n).toArray⟩ := by
  have e0 : (⟨#[]⟩ : ByteArray) = ⟨([] : List UInt8).toArray⟩ := rfl
  unfold spec_Decimal.f
  by_cases hz : n = 0
  · subst hz
    simp only [if_true, itoa_zero]
    exact Ev.now _
  · simp only [if_neg hz]
    by_cases hn : n < 0
    · obtain ⟨m, rfl⟩ : ∃ m : Nat, n = -(m : Int) := ⟨n.natAbs, by omega⟩
      have := dec_l0 true 19 m [] (by omega) (by omega) (fun h => by cases h) (by decide)
      rw [itoa_neg m (by omega)]
      simpa only [signed, if_true, decide_eq_true hn, e0, List.append_nil, List.cons_append, List.nil_append] using this
    · obtain ⟨m, rfl⟩ := Int.eq_ofNat_of_zero_le (show 0 ≤ n by omega)
      have := dec_l0 false 19 m [] (by omega) (by omega) (fun _ => by omega) (by decide)
      rw [itoa_pos m (by omega)]
      simpa only [signed, Bool.false_eq_true, if_false, decide_eq_false hn, e0, List.append_nil, List.nil_append] using this
theorem readdec_l0 (s : ByteArray) (hs : s.size ≤ 10) (n : Nat) : ∀ (i v : Nat), i + n = s.size → v < 10 ^ i →
    ∃ r, Ev (fun k => spec_ReadDecimal.l0 k s (v : Int) (i : Int)) r ∧ Ev (fun k => impl_ReadDecimal.l0 k s (v : Int) (i : Int)) r := by
  induction n with
  | zero =>
    intro i v hn hv
    have hp : 10 ^ i ≤ 10 ^ 10 := Nat.pow_le_pow_right (by decide) (by omega)
    have hp' : v < 10000000000 := Nat.lt_of_lt_of_le hv (by simpa using hp)
    clear hp hv
    have hlt : ¬ (i : Int) < (s.size : Int) := by omega
    by_cases hg : (v : Int) > 1000000000
    · refine ⟨(0, false), ?_, ?_⟩
      · refine Ev.step (fun k => spec_ReadDecimal.l0.eq_2 s (v : Int) (i : Int) k) ?_
        simp only [if_neg hlt, if_pos hg]
        exact Ev.now _
      · refine Ev.step (fun k => impl_ReadDecimal.l0.eq_2 s (v : Int) (i : Int) k) ?_
        simp only [if_neg hlt, if_pos hg]
        exact Ev.now _
    · have hd := spec_dec (v : Int) (by omega) (by omega)
      have hi : impl_Decimal.f (v : Int) = some ⟨(Lib.itoa (v : Int)).toArray⟩ := by
        unfold impl_Decimal.f strconv_Itoa_48.f itoaF
        rw [if_pos (by omega)]
        rfl
      by_cases he : (⟨(Lib.itoa (v : Int)).toArray⟩ : ByteArray).toList = s.toList
      · refine ⟨((v : Int), true), ?_, ?_⟩
        · refine Ev.step (fun k => spec_ReadDecimal.l0.eq_2 s (v : Int) (i : Int) k) ?_
          simp only [if_neg hlt, if_neg hg]
          refine Ev.bind hd ?_
          simp only [if_pos he]
          exact Ev.now _
        · refine Ev.step (fun k => impl_ReadDecimal.l0.eq_2 s (v : Int) (i : Int) k) ?_
          simp only [if_neg hlt, if_neg hg, hi, Option.bind_some, if_pos he]
          exact Ev.now _
      · refine ⟨(0, false), ?_, ?_⟩
        · refine Ev.step (fun k => spec_ReadDecimal.l0.eq_2 s (v : Int) (i : Int) k) ?_
          simp only [if_neg hlt, if_neg hg]
          refine Ev.bind hd ?_
          simp only [if_neg he]
          exact Ev.now _
        · refine Ev.step (fun k => impl_ReadDecimal.l0.eq_2 s (v : Int) (i : Int) k) ?_
          simp only [if_neg hlt, if_neg hg, hi, Option.bind_some, if_neg he]
          exact Ev.now _
  | succ n ih =>
    intro i v hn hv
    have hp : 10 ^ i ≤ 10 ^ 9 := Nat.pow_le_pow_right (by decide) (by omega)
    have hp' : v < 1000000000 := Nat.lt_of_lt_of_le hv (by simpa using hp)
    have hlt : (i : Int) < (s.size : Int) := by omega
    have h0 : (0 : Int) ≤ (i : Int) := by omega
    obtain ⟨c0, c1⟩ := bt_lt s (i : Int)
    by_cases h1 : bt s (i : Int) < 48
    · refine ⟨(0, false), ?_, ?_⟩
      · refine Ev.step (fun k => spec_ReadDecimal.l0.eq_2 s (v : Int) (i : Int) k) ?_
        simp only [if_pos hlt, if_pos h0, if_pos h1]
        exact Ev.now _
      · refine Ev.step (fun k => impl_ReadDecimal.l0.eq_2 s (v : Int) (i : Int) k) ?_
        simp only [if_pos hlt, if_pos h0, if_pos h1]
        exact Ev.now _
    · by_cases h2 : bt s (i : Int) > 57
      · refine ⟨(0, false), ?_, ?_⟩
        · refine Ev.step (fun k => spec_ReadDecimal.l0.eq_2 s (v : Int) (i : Int) k) ?_
          simp only [if_pos hlt, if_pos h0, if_neg h1, if_pos h2]
          exact Ev.now _
        · refine Ev.step (fun k => impl_ReadDecimal.l0.eq_2 s (v : Int) (i : Int) k) ?_
          simp only [if_pos hlt, if_pos h0, if_neg h1, if_pos h2]
          exact Ev.now _
      · obtain ⟨c, hc⟩ : ∃ c : Nat, bt s (i : Int) = 48 + (c : Int) := ⟨(bt s (i : Int) - 48).toNat, by omega⟩
        have hv' : 10 * v + c < 10 ^ (i + 1) := by
          rw [Nat.pow_succ]
          omega
        obtain ⟨r, a, b⟩ := ih (i + 1) (10 * v + c) (by omega) hv'
        have e1 : wrap64 (wrap64 (wrap64 (10 * (v : Int)) + wrap64 (48 + (c : Int))) - 48) = ((10 * v + c : Nat) : Int) := by
          rw [w64 (n := 10 * (v : Int)) (by omega) (by omega), w64 (n := 48 + (c : Int)) (by omega) (by omega), w64 (n := 10 * (v : Int) + (48 + (c : Int))) (by omega) (by omega), w64 (by omega) (by omega)]
          omega
        have e2 : wrap64 (wrap64 ((v : Int) * 10) + (48 + (c : Int) - 48) % 256) = ((10 * v + c : Nat) : Int) := by
          rw [w64 (n := (v : Int) * 10) (by omega) (by omega), w64 (by omega) (by omega)]
          omega
        have e3 : wrap64 ((i : Int) + 1) = ((i + 1 : Nat) : Int) := by
          rw [w64 (by omega) (by omega)]
          omega
        rw [hc] at h1 h2
        refine ⟨r, ?_, ?_⟩
        · refine Ev.step (fun k => spec_ReadDecimal.l0.eq_2 s (v : Int) (i : Int) k) ?_
          simp only [if_pos hlt, if_pos h0, hc, if_neg h1, if_neg h2, e1, e3]
          exact a
        · refine Ev.step (fun k => impl_ReadDecimal.l0.eq_2 s (v : Int) (i : Int) k) ?_
          simp only [if_pos hlt, if_pos h0, hc, if_neg h1, if_neg h2, e2, e3]
          exact b
theorem readdec_both (s : ByteArray) : ∃ r, Ev (fun k => spec_ReadDecimal.f k s) r ∧ Ev (fun k => impl_ReadDecimal.f k s) r := by
  have IT : Ev (fun k => impl_ReadDecimal.j0 k s true) (0, false) := by
    refine Ev.step (fun k => impl_ReadDecimal.j0.eq_2 s true k) ?_
    simp only [if_true]
    exact Ev.now _
  unfold spec_ReadDecimal.f impl_ReadDecimal.f
  by_cases h1 : (s.size : Int) > 10
  · refine ⟨(0, false), ?_, ?_⟩
    · simp only [if_pos h1]
      exact Ev.now _
    · simp only [decide_eq_true h1, ite_self]
      exact IT
  · by_cases h2 : (s.size : Int) = 0
    · refine ⟨(0, false), ?_, ?_⟩
      · simp only [if_neg h1]
        have hd := spec_dec 0 (by omega) (by omega)
        refine Ev.step (fun k => spec_ReadDecimal.l0.eq_2 s 0 0 k) ?_
        simp only [if_neg (show ¬ (0 : Int) < (s.size : Int) by omega), if_neg (show ¬ (0 : Int) > 1000000000 by omega)]
        refine Ev.bind hd ?_
        have hne : ¬ (⟨(Lib.itoa 0).toArray⟩ : ByteArray).toList = s.toList := by
          intro h
          have := congrArg List.length h
          rw [← size_list, ← size_list, size_mk, itoa_zero] at this
          simp only [List.length_cons, List.length_nil] at this
          omega
        simp only [if_neg hne]
        exact Ev.now _
      · simp only [if_pos h2]
        exact IT
    · obtain ⟨r, a, b⟩ := readdec_l0 s (by omega) s.size 0 0 (by omega) (by decide)
      refine ⟨r, ?_, ?_⟩
      · simp only [if_neg h1]
        exact a
      · simp only [if_neg h2, decide_eq_false h1]
        refine Ev.step (fun k => impl_ReadDecimal.j0.eq_2 s false k) ?_
        simp only [Bool.false_eq_true, if_false]
        exact b
end ReadDecimal
theorem FnExactReadDecimal : laws_FnExactReadDecimal.Pure := by
  intro s hs
  refine Ev.rounds ?_
  unfold laws_FnExactReadDecimal.f
  by_cases hb : (s.size : Int) > 1048576
  · simp only [if_pos hb]
    exact Ev.now _
  · simp only [if_neg hb]
    obtain ⟨r, h1, h2⟩ := ReadDecimal.readdec_both s
    refine Ev.bind h1 ?_
    refine Ev.bind h2 ?_
    simp only [if_true, bne_self_eq_false, Bool.false_eq_true, if_false]
    exact Ev.now _
end Go.Proofs.YtokhjlaomgimmaaDoor.Pure
