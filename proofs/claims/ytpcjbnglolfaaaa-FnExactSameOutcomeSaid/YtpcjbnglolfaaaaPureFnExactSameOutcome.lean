/- The program's SameOutcome and the reference's give one answer, for any two outcomes of lists and texts no longer than maxLen. -/
import Derived.Test.YtpcjbnglolfaaaaPFnExactSameOutcomex3
import Derived.Test.YtpcjbnglolfaaaaLib
namespace Go.Proofs.Ytpcjbnglolfaaaa.Pure
open Go.RowKit Go.Proofs.Ytpcjbnglolfaaaa.PFnExactSameOutcome Go.Proofs.YtpcjbnglolfaaaaW.PrintWords Go.Proofs.YtpcjbnglolfaaaaW.PrintLast Go.Proofs.Ytpcjbnglolfaaaa.Lib
set_option linter.unusedSimpArgs false
set_option linter.unusedVariables false
namespace SameOutcome
theorem szS_l0 (xs : List ByteArray) (hx : xs.length ≤ 1048576) (hs : ∀ s ∈ xs, s.size ≤ maxLen) (n : Nat) : ∀ (i left : Int), 0 ≤ i → i + n = xs.length → 0 ≤ left → left ≤ 1048576 →
    ∃ r, Ev (fun k => laws_szStringS.l0 k xs left i) r ∧ r ≤ 1048576 := by
  have hm : maxLen = 9223372036854775807 := rfl
  induction n with
  | zero =>
    intro i left h0 hn l0 l1
    refine ⟨left, ?_, l1⟩
    refine Ev.step (fun k => laws_szStringS.l0.eq_2 xs left i k) ?_
    simp only [if_neg (show ¬ i < (xs.length : Int) by omega)]
    exact Ev.now _
  | succ n ih =>
    intro i left h0 hn l0 l1
    have hz : (rdOf ByteArray.empty xs i).size ≤ 9223372036854775807 := by
      unfold rdOf
      rw [List.getD_eq_getElem?_getD, List.getElem?_eq_getElem (by omega)]
      exact hs _ (List.getElem_mem _)
    have e1 : wrap64 (left - ((rdOf ByteArray.empty xs i).size : Int)) = left - ((rdOf ByteArray.empty xs i).size : Int) := w64 (by omega) (by omega)
    by_cases h : left - ((rdOf ByteArray.empty xs i).size : Int) < 0
    · refine ⟨-1, ?_, by omega⟩
      refine Ev.step (fun k => laws_szStringS.l0.eq_2 xs left i k) ?_
      simp only [if_pos (show i < (xs.length : Int) by omega), if_pos h0, e1, if_pos h]
      exact Ev.now _
    · obtain ⟨r, h1, h2⟩ := ih (i + 1) (left - ((rdOf ByteArray.empty xs i).size : Int)) (by omega) (by omega) (by omega) (by omega)
      refine ⟨r, ?_, h2⟩
      refine Ev.step (fun k => laws_szStringS.l0.eq_2 xs left i k) ?_
      simp only [if_pos (show i < (xs.length : Int) by omega), if_pos h0, e1, if_neg h]
      rw [w64 (by omega) (by omega)]
      exact h1
theorem szS (xs : List ByteArray) (hx : xs.length ≤ maxLen) (hs : ∀ s ∈ xs, s.size ≤ maxLen) (left : Int) (l0 : 0 ≤ left) (l1 : left ≤ 1048576) :
    ∃ r, Ev (fun k => laws_szStringS.f k xs left) r ∧ r ≤ 1048576 ∧ (0 ≤ r → xs.length ≤ 1048576) := by
  have hm : maxLen = 9223372036854775807 := rfl
  unfold laws_szStringS.f
  have e1 : wrap64 (left - (xs.length : Int)) = left - (xs.length : Int) := w64 (by omega) (by omega)
  simp only [e1]
  by_cases h : left - (xs.length : Int) < 0
  · refine ⟨-1, ?_, by omega, by omega⟩
    simp only [if_pos h]
    exact Ev.now _
  · obtain ⟨r, h1, h2⟩ := szS_l0 xs (by omega) hs xs.length 0 (left - (xs.length : Int)) (by omega) (by omega) (by omega) (by omega)
    refine ⟨r, ?_, h2, fun _ => by omega⟩
    simp only [if_neg h]
    exact h1
theorem toS_l0 (xs : List ByteArray) (hx : xs.length ≤ 1048576) (n : Nat) : ∀ (i : Int) (ys : List ByteArray), 0 ≤ i → i + n = xs.length → ys.length = xs.length → (∀ j, j < i.toNat → ys[j]? = xs[j]?) →
    Ev (fun k => laws_toStringS.l0 k xs ys i) xs := by
  induction n with
  | zero =>
    intro i ys h0 hn hl H
    refine Ev.step (fun k => laws_toStringS.l0.eq_2 xs ys i k) ?_
    simp only [if_neg (show ¬ i < (xs.length : Int) by omega)]
    have e : ys = xs := by
      apply List.ext_getElem?
      intro j
      by_cases hj : j < i.toNat
      · exact H j hj
      · rw [List.getElem?_eq_none (by omega), List.getElem?_eq_none (by omega)]
    rw [e]
    exact Ev.now _
  | succ n ih =>
    intro i ys h0 hn hl H
    refine Ev.step (fun k => laws_toStringS.l0.eq_2 xs ys i k) ?_
    simp only [if_pos (show i < (xs.length : Int) by omega), if_pos h0, if_pos (show i < (ys.length : Int) by omega)]
    rw [w64 (by omega) (by omega)]
    refine ih (i + 1) _ (by omega) (by omega) (by rw [List.length_set]; exact hl) (fun j hj => ?_)
    rw [List.getElem?_set]
    by_cases e : i.toNat = j
    · subst e
      rw [if_pos rfl, if_pos (by omega)]
      unfold rdOf
      rw [List.getD_eq_getElem?_getD, List.getElem?_eq_getElem (by omega)]
      rfl
    · rw [if_neg e]
      exact H j (by omega)
theorem toS (xs : List ByteArray) (hx : xs.length ≤ 1048576) : Ev (fun k => laws_toStringS.f k xs) xs := by
  unfold laws_toStringS.f
  simp only [if_pos (show (0 : Int) ≤ (xs.length : Int) by omega), Int.toNat_natCast, if_pos (show xs.length ≤ 17592186044416 by omega)]
  exact toS_l0 xs hx xs.length 0 _ (by omega) (by omega) (by rw [List.length_replicate]) (fun j hj => by omega)
theorem eqS_l0 (xs : List ByteArray) (hx : xs.length ≤ 1048576) (n : Nat) : ∀ (i : Int), 0 ≤ i → i + n = xs.length → Ev (fun k => laws_eqStringS.l0 k xs xs i) true := by
  induction n with
  | zero =>
    intro i h0 hn
    refine Ev.step (fun k => laws_eqStringS.l0.eq_2 xs xs i k) ?_
    simp only [if_neg (show ¬ i < (xs.length : Int) by omega)]
    exact Ev.now _
  | succ n ih =>
    intro i h0 hn
    refine Ev.step (fun k => laws_eqStringS.l0.eq_2 xs xs i k) ?_
    simp only [if_pos (show i < (xs.length : Int) by omega), if_pos h0, if_true]
    rw [w64 (by omega) (by omega)]
    exact ih (i + 1) (by omega) (by omega)
theorem eqS (xs : List ByteArray) (hx : xs.length ≤ 1048576) : Ev (fun k => laws_eqStringS.f k xs xs) true := by
  unfold laws_eqStringS.f
  simp only [if_true]
  exact eqS_l0 xs hx xs.length 0 (by omega) (by omega)
/-- n texts from place i on are the same in both. -/
def sameN (xs ys : List ByteArray) : Nat → Int → Bool
  | 0, _ => true
  | n + 1, i => if (rdOf ByteArray.empty xs i).toList = (rdOf ByteArray.empty ys i).toList then sameN xs ys n (i + 1) else false
theorem spec_l0 (xs ys : List ByteArray) (hx : xs.length ≤ 1048576) (hy : ys.length = xs.length) (e f e' f' : Int) (n : Nat) : ∀ (i : Int), 0 ≤ i → i + n = xs.length →
    Ev (fun k => spec_SameOutcome.l0 k i e xs f e' ys f') (sameN xs ys n i) := by
  induction n with
  | zero =>
    intro i h0 hn
    refine Ev.step (fun k => spec_SameOutcome.l0.eq_2 i e xs f e' ys f' k) ?_
    simp only [if_neg (show ¬ i < (xs.length : Int) by omega)]
    exact Ev.now _
  | succ n ih =>
    intro i h0 hn
    refine Ev.step (fun k => spec_SameOutcome.l0.eq_2 i e xs f e' ys f' k) ?_
    simp only [if_pos (show i < (xs.length : Int) by omega), if_pos h0, if_pos (show i < (ys.length : Int) by omega), sameN]
    by_cases h : (rdOf ByteArray.empty xs i).toList = (rdOf ByteArray.empty ys i).toList
    · simp only [if_pos h]
      rw [w64 (by omega) (by omega)]
      exact ih (i + 1) (by omega) (by omega)
    · simp only [if_neg h]
      exact Ev.now _
theorem impl_l0 (xs ys : List ByteArray) (hx : xs.length ≤ 1048576) (hy : ys.length = xs.length) (n : Nat) : ∀ (i : Int), 0 ≤ i → i + n = xs.length →
    Ev (fun k => slices_Equal_string_string.l0 k xs ys (xs.length : Int) i) (sameN xs ys n i) := by
  induction n with
  | zero =>
    intro i h0 hn
    refine Ev.step (fun k => slices_Equal_string_string.l0.eq_2 xs ys (xs.length : Int) i k) ?_
    simp only [if_neg (show ¬ i < (xs.length : Int) by omega)]
    exact Ev.now _
  | succ n ih =>
    intro i h0 hn
    refine Ev.step (fun k => slices_Equal_string_string.l0.eq_2 xs ys (xs.length : Int) i k) ?_
    simp only [if_pos (show i < (xs.length : Int) by omega), if_pos h0, if_pos (show i < (ys.length : Int) by omega), sameN]
    by_cases h : (rdOf ByteArray.empty xs i).toList = (rdOf ByteArray.empty ys i).toList
    · simp only [if_pos h]
      rw [w64 (by omega) (by omega)]
      exact ih (i + 1) (by omega) (by omega)
    · simp only [if_neg h]
      exact Ev.now _
def res (e : Int) (xs : List ByteArray) (f e' : Int) (ys : List ByteArray) (f' : Int) : Bool := if e = e' then if f = f' then if xs.length = ys.length then sameN xs ys xs.length 0 else false else false else false
theorem spec_same (e : Int) (xs : List ByteArray) (f e' : Int) (ys : List ByteArray) (f' : Int) (hx : xs.length ≤ 1048576) : Ev (fun k => spec_SameOutcome.f k e xs f e' ys f') (res e xs f e' ys f') := by
  have H : Ev (fun k => spec_SameOutcome.j0 k true e xs f e' ys f') false := by
    refine Ev.step (fun k => spec_SameOutcome.j0.eq_2 true e xs f e' ys f' k) ?_
    simp only [if_true]
    exact Ev.now _
  unfold spec_SameOutcome.f res
  by_cases h1 : e = e'
  · by_cases h2 : f = f'
    · simp only [if_pos h1, if_pos h2]
      by_cases h3 : xs.length = ys.length
      · have hb : ((xs.length : Int) != (ys.length : Int)) = false := by
          rw [h3]
          exact bne_self_eq_false _
        simp only [hb, if_pos h3]
        refine Ev.step (fun k => spec_SameOutcome.j0.eq_2 false e xs f e' ys f' k) ?_
        simp only [Bool.false_eq_true, if_false]
        exact spec_l0 xs ys hx h3.symm e f e' f' xs.length 0 (by omega) (by omega)
      · have hb : ((xs.length : Int) != (ys.length : Int)) = true := by
          rw [bne_iff_ne]
          omega
        simp only [hb, if_neg h3]
        exact H
    · simp only [if_pos h1, if_neg h2]
      exact H
  · simp only [if_neg h1]
    exact H
theorem impl_same (e : Int) (xs : List ByteArray) (f e' : Int) (ys : List ByteArray) (f' : Int) (hx : xs.length ≤ 1048576) : Ev (fun k => impl_SameOutcome.f k e xs f e' ys f') (res e xs f e' ys f') := by
  unfold impl_SameOutcome.f slices_Equal_string_string.f res
  by_cases h1 : e = e'
  · by_cases h2 : f = f'
    · simp only [if_pos h1, if_pos h2]
      by_cases h3 : xs.length = ys.length
      · simp only [if_pos (show (xs.length : Int) = (ys.length : Int) by omega), if_pos h3]
        exact Ev.bind (impl_l0 xs ys hx h3.symm xs.length 0 (by omega) (by omega)) (Ev.now _)
      · simp only [if_neg (show ¬ (xs.length : Int) = (ys.length : Int) by omega), if_neg h3, Option.bind_some]
        exact Ev.now _
    · simp only [if_pos h1, if_neg h2]
      exact Ev.now _
  · simp only [if_neg h1]
    exact Ev.now _
theorem toO (e : Int) (xs : List ByteArray) (f : Int) (hx : xs.length ≤ 1048576) : Ev (fun k => laws_toOutcome.f k e xs f) (e, xs, f) := by
  unfold laws_toOutcome.f
  exact Ev.bind (toS xs hx) (Ev.now _)
theorem eqO (e : Int) (xs : List ByteArray) (f : Int) (hx : xs.length ≤ 1048576) : Ev (fun k => laws_eqOutcome.f k e xs f e xs f) true := by
  unfold laws_eqOutcome.f
  simp only [if_true]
  refine Ev.bind (eqS xs hx) ?_
  simp only [if_true]
  exact Ev.now _
theorem szO (e : Int) (xs : List ByteArray) (f : Int) (hx : xs.length ≤ maxLen) (hs : ∀ s ∈ xs, s.size ≤ maxLen) (left : Int) (l0 : 0 ≤ left) (l1 : left ≤ 1048576) :
    ∃ r, Ev (fun k => laws_szOutcome.f k e xs f left) r ∧ r ≤ 1048576 ∧ (¬ r < 0 → xs.length ≤ 1048576) := by
  obtain ⟨r, h1, h2, h3⟩ := szS xs hx hs left l0 l1
  unfold laws_szOutcome.f
  by_cases h : r < 0
  · refine ⟨-1, Ev.bind h1 ?_, by omega, fun h' => absurd (by omega) h'⟩
    simp only [if_pos h]
    exact Ev.now _
  · refine ⟨r, Ev.bind h1 ?_, h2, fun _ => h3 (by omega)⟩
    simp only [if_neg h]
    exact Ev.now _
end SameOutcome
open SameOutcome in
theorem FnExactSameOutcome (e : Int) (xs : List ByteArray) (f e' : Int) (ys : List ByteArray) (f' : Int) (hx : xs.length ≤ maxLen) (hsx : ∀ s ∈ xs, s.size ≤ maxLen) (hy : ys.length ≤ maxLen) (hsy : ∀ s ∈ ys, s.size ≤ maxLen) :
    ∃ k, laws_FnExactSameOutcome.f k e xs f e' ys f' = some true := by
  refine Ev.rounds ?_
  unfold laws_FnExactSameOutcome.f
  obtain ⟨r1, a1, a2, a3⟩ := szO e xs f hx hsx 1048576 (by omega) (by omega)
  refine Ev.bind a1 ?_
  by_cases h1 : r1 < 0
  · simp only [if_pos h1]
    exact Ev.now _
  · simp only [if_neg h1]
    obtain ⟨r2, b1, b2, b3⟩ := szO e' ys f' hy hsy r1 (by omega) a2
    refine Ev.bind b1 ?_
    by_cases h2 : r2 < 0
    · simp only [if_pos h2]
      exact Ev.now _
    · simp only [if_neg h2]
      have lx := a3 h1
      have ly := b3 h2
      refine Ev.bind (toO e xs f lx) ?_
      refine Ev.bind (toO e' ys f' ly) ?_
      refine Ev.bind (spec_same e xs f e' ys f' lx) ?_
      refine Ev.bind (toO e xs f lx) ?_
      refine Ev.bind (toO e' ys f' ly) ?_
      refine Ev.bind (impl_same e xs f e' ys f' lx) ?_
      simp only [bne_self_eq_false, Bool.false_eq_true, if_false]
      refine Ev.bind (toO e xs f lx) ?_
      refine Ev.bind (eqO e xs f lx) ?_
      simp only [if_true]
      refine Ev.bind (toO e' ys f' ly) ?_
      refine Ev.bind (eqO e' ys f' ly) ?_
      simp only [if_true]
      exact Ev.now _
end Go.Proofs.Ytpcjbnglolfaaaa.Pure
