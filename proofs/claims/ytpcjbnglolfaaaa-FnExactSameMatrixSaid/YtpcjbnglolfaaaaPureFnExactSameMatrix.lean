/- The program's SameMatrix and the reference's give one answer, for any two matrices of lists and texts no longer than maxLen. -/
import Derived.Test.YtpcjbnglolfaaaaPFnExactSameMatrixx4
import Derived.Test.YtpcjbnglolfaaaaLib
namespace Go.Proofs.Ytpcjbnglolfaaaa.Pure
open Go.RowKit Go.Proofs.Ytpcjbnglolfaaaa.PFnExactSameMatrix Go.Proofs.YtpcjbnglolfaaaaW.PrintWords Go.Proofs.YtpcjbnglolfaaaaW.PrintLast Go.Proofs.Ytpcjbnglolfaaaa.Lib
set_option linter.unusedSimpArgs false
set_option linter.unusedVariables false
namespace SameMatrix
theorem szF (a b : ByteArray) (ha : a.size ≤ maxLen) (hb : b.size ≤ maxLen) (left : Int) (l0 : 0 ≤ left) (l1 : left ≤ 1048576) : ∃ r, laws_szFrac.f a b left = some r ∧ r ≤ 1048576 := by
  have hm : maxLen = 9223372036854775807 := rfl
  unfold laws_szFrac.f
  have e1 : wrap64 (left - (a.size : Int)) = left - (a.size : Int) := w64 (by omega) (by omega)
  rw [e1]
  by_cases h : left - (a.size : Int) < 0
  · exact ⟨-1, by rw [if_pos h], by omega⟩
  · have e2 : wrap64 (left - (a.size : Int) - (b.size : Int)) = left - (a.size : Int) - (b.size : Int) := w64 (by omega) (by omega)
    rw [if_neg h, e2]
    by_cases h' : left - (a.size : Int) - (b.size : Int) < 0
    · exact ⟨-1, by rw [if_pos h'], by omega⟩
    · exact ⟨_, by rw [if_neg h'], by omega⟩
theorem szFS_l0 (xs : List S111) (hx : xs.length ≤ 1048576) (hs : ∀ s ∈ xs, s.f0.size ≤ maxLen ∧ s.f1.size ≤ maxLen) (n : Nat) : ∀ (i left : Int), 0 ≤ i → i + n = xs.length → 0 ≤ left → left ≤ 1048576 →
    ∃ r, Ev (fun k => laws_szFracS.l0 k xs left i) r ∧ r ≤ 1048576 := by
  induction n with
  | zero =>
    intro i left h0 hn l0 l1
    refine ⟨left, ?_, l1⟩
    refine Ev.step (fun k => laws_szFracS.l0.eq_2 xs left i k) ?_
    simp only [if_neg (show ¬ i < (xs.length : Int) by omega)]
    exact Ev.now _
  | succ n ih =>
    intro i left h0 hn l0 l1
    have hz : (rd_T111 xs i).f0.size ≤ maxLen ∧ (rd_T111 xs i).f1.size ≤ maxLen := by
      unfold rd_T111
      rw [List.getD_eq_getElem?_getD, List.getElem?_eq_getElem (by omega)]
      exact hs _ (List.getElem_mem _)
    obtain ⟨q, hq, hq1⟩ := szF _ _ hz.1 hz.2 left l0 l1
    by_cases h : q < 0
    · refine ⟨-1, ?_, by omega⟩
      refine Ev.step (fun k => laws_szFracS.l0.eq_2 xs left i k) ?_
      simp only [if_pos (show i < (xs.length : Int) by omega), if_pos h0, hq, Option.bind_some, if_pos h]
      exact Ev.now _
    · obtain ⟨r, h1, h2⟩ := ih (i + 1) q (by omega) (by omega) (by omega) hq1
      refine ⟨r, ?_, h2⟩
      refine Ev.step (fun k => laws_szFracS.l0.eq_2 xs left i k) ?_
      simp only [if_pos (show i < (xs.length : Int) by omega), if_pos h0, hq, Option.bind_some, if_neg h]
      rw [w64 (by omega) (by omega)]
      exact h1
theorem szFS (xs : List S111) (hx : xs.length ≤ maxLen) (hs : ∀ s ∈ xs, s.f0.size ≤ maxLen ∧ s.f1.size ≤ maxLen) (left : Int) (l0 : 0 ≤ left) (l1 : left ≤ 1048576) :
    ∃ r, Ev (fun k => laws_szFracS.f k xs left) r ∧ r ≤ 1048576 ∧ (0 ≤ r → xs.length ≤ 1048576) := by
  have hm : maxLen = 9223372036854775807 := rfl
  unfold laws_szFracS.f
  have e1 : wrap64 (left - (xs.length : Int)) = left - (xs.length : Int) := w64 (by omega) (by omega)
  simp only [e1]
  by_cases h : left - (xs.length : Int) < 0
  · refine ⟨-1, ?_, by omega, by omega⟩
    simp only [if_pos h]
    exact Ev.now _
  · obtain ⟨r, h1, h2⟩ := szFS_l0 xs (by omega) hs xs.length 0 (left - (xs.length : Int)) (by omega) (by omega) (by omega) (by omega)
    refine ⟨r, ?_, h2, fun _ => by omega⟩
    simp only [if_neg h]
    exact h1
theorem szM (a b : Int) (xs : List S111) (hx : xs.length ≤ maxLen) (hs : ∀ s ∈ xs, s.f0.size ≤ maxLen ∧ s.f1.size ≤ maxLen) (left : Int) (l0 : 0 ≤ left) (l1 : left ≤ 1048576) :
    ∃ r, Ev (fun k => laws_szMatrix.f k a b xs left) r ∧ r ≤ 1048576 ∧ (¬ r < 0 → xs.length ≤ 1048576) := by
  obtain ⟨r, h1, h2, h3⟩ := szFS xs hx hs left l0 l1
  unfold laws_szMatrix.f
  by_cases h : r < 0
  · refine ⟨-1, Ev.bind h1 ?_, by omega, fun h' => absurd (by omega) h'⟩
    simp only [if_pos h]
    exact Ev.now _
  · refine ⟨r, Ev.bind h1 ?_, h2, fun _ => h3 (by omega)⟩
    simp only [if_neg h]
    exact Ev.now _
/-- The same fraction, as the program's. -/
def conv (xs : List S111) : List S92 := xs.map fun x => ⟨x.f0, x.f1⟩
theorem conv_length (xs : List S111) : (conv xs).length = xs.length := by simp [conv]
theorem toFS_l0 (xs : List S111) (hx : xs.length ≤ 1048576) (n : Nat) : ∀ (i : Int) (ys : List S92), 0 ≤ i → i + n = xs.length → ys.length = xs.length → (∀ j, j < i.toNat → ys[j]? = (conv xs)[j]?) →
    Ev (fun k => laws_toFracS.l0 k xs ys i) (conv xs) := by
  have hcl := conv_length xs
  induction n with
  | zero =>
    intro i ys h0 hn hl H
    refine Ev.step (fun k => laws_toFracS.l0.eq_2 xs ys i k) ?_
    simp only [if_neg (show ¬ i < (xs.length : Int) by omega)]
    have e : ys = conv xs := by
      apply List.ext_getElem?
      intro j
      by_cases hj : j < i.toNat
      · exact H j hj
      · rw [List.getElem?_eq_none (by omega), List.getElem?_eq_none (by omega)]
    rw [e]
    exact Ev.now _
  | succ n ih =>
    intro i ys h0 hn hl H
    refine Ev.step (fun k => laws_toFracS.l0.eq_2 xs ys i k) ?_
    unfold laws_toFrac.f
    simp only [if_pos (show i < (xs.length : Int) by omega), if_pos h0, Option.bind_some, if_pos (show i < (ys.length : Int) by omega)]
    rw [w64 (by omega) (by omega)]
    refine ih (i + 1) _ (by omega) (by omega) (by rw [List.length_set]; exact hl) (fun j hj => ?_)
    rw [List.getElem?_set]
    by_cases e : i.toNat = j
    · subst e
      rw [if_pos rfl, if_pos (by omega)]
      unfold rd_T111 conv
      rw [List.getD_eq_getElem?_getD, List.getElem?_map, List.getElem?_eq_getElem (by omega)]
      rfl
    · rw [if_neg e]
      exact H j (by omega)
theorem toFS (xs : List S111) (hx : xs.length ≤ 1048576) : Ev (fun k => laws_toFracS.f k xs) (conv xs) := by
  unfold laws_toFracS.f
  simp only [if_pos (show (0 : Int) ≤ (xs.length : Int) by omega), Int.toNat_natCast, if_pos (show xs.length ≤ 8796093022208 by omega)]
  exact toFS_l0 xs hx xs.length 0 _ (by omega) (by omega) (by rw [List.length_replicate]) (fun j hj => by omega)
theorem toM (a b : Int) (xs : List S111) (hx : xs.length ≤ 1048576) : Ev (fun k => laws_toMatrix.f k a b xs) (a, b, conv xs) := by
  unfold laws_toMatrix.f
  exact Ev.bind (toFS xs hx) (Ev.now _)
theorem eqFS_l0 (xs : List S92) (hx : xs.length ≤ 1048576) (n : Nat) : ∀ (i : Int), 0 ≤ i → i + n = xs.length → Ev (fun k => laws_eqFracS.l0 k xs xs i) true := by
  induction n with
  | zero =>
    intro i h0 hn
    refine Ev.step (fun k => laws_eqFracS.l0.eq_2 xs xs i k) ?_
    simp only [if_neg (show ¬ i < (xs.length : Int) by omega)]
    exact Ev.now _
  | succ n ih =>
    intro i h0 hn
    refine Ev.step (fun k => laws_eqFracS.l0.eq_2 xs xs i k) ?_
    unfold laws_eqFrac.f
    simp only [if_pos (show i < (xs.length : Int) by omega), if_pos h0, if_true, Option.bind_some]
    rw [w64 (by omega) (by omega)]
    exact ih (i + 1) (by omega) (by omega)
theorem eqM (a b : Int) (xs : List S92) (hx : xs.length ≤ 1048576) : Ev (fun k => laws_eqMatrix.f k a b xs a b xs) true := by
  unfold laws_eqMatrix.f laws_eqFracS.f
  simp only [if_true]
  refine Ev.bind (eqFS_l0 xs hx xs.length 0 (by omega) (by omega)) ?_
  simp only [if_true]
  exact Ev.now _
/-- n fractions from place i on are the same in both. -/
def sameN (xs ys : List S92) : Nat → Int → Bool
  | 0, _ => true
  | n + 1, i => if (!((((rd_T92 xs i).f0).toList) == (((rd_T92 ys i).f0).toList)) || (!((((rd_T92 xs i).f1).toList) == (((rd_T92 ys i).f1).toList)))) = true then false else sameN xs ys n (i + 1)
theorem specM_l0 (xs ys : List S92) (hx : xs.length ≤ 1048576) (hy : ys.length = xs.length) (e f e' f' : Int) (n : Nat) : ∀ (i : Int), 0 ≤ i → i + n = xs.length →
    Ev (fun k => spec_SameMatrix.l0 k i e f xs e' f' ys) (sameN xs ys n i) := by
  induction n with
  | zero =>
    intro i h0 hn
    refine Ev.step (fun k => spec_SameMatrix.l0.eq_2 i e f xs e' f' ys k) ?_
    simp only [if_neg (show ¬ i < (xs.length : Int) by omega)]
    exact Ev.now _
  | succ n ih =>
    intro i h0 hn
    refine Ev.step (fun k => spec_SameMatrix.l0.eq_2 i e f xs e' f' ys k) ?_
    simp only [if_pos (show i < (xs.length : Int) by omega), if_pos h0, if_pos (show i < (ys.length : Int) by omega), sameN]
    by_cases h : (!((((rd_T92 xs i).f0).toList) == (((rd_T92 ys i).f0).toList)) || (!((((rd_T92 xs i).f1).toList) == (((rd_T92 ys i).f1).toList)))) = true
    · simp only [if_pos h]
      exact Ev.now _
    · simp only [if_neg h]
      rw [w64 (by omega) (by omega)]
      exact ih (i + 1) (by omega) (by omega)
theorem implM_l0 (xs ys : List S92) (hx : xs.length ≤ 1048576) (hy : ys.length = xs.length) (n : Nat) : ∀ (i : Int), 0 ≤ i → i + n = xs.length →
    Ev (fun k => impl_Frac.l0 k xs ys (xs.length : Int) i) (sameN xs ys n i) := by
  induction n with
  | zero =>
    intro i h0 hn
    refine Ev.step (fun k => impl_Frac.l0.eq_2 xs ys (xs.length : Int) i k) ?_
    simp only [if_neg (show ¬ i < (xs.length : Int) by omega)]
    exact Ev.now _
  | succ n ih =>
    intro i h0 hn
    refine Ev.step (fun k => impl_Frac.l0.eq_2 xs ys (xs.length : Int) i k) ?_
    simp only [if_pos (show i < (xs.length : Int) by omega), if_pos h0, if_pos (show i < (ys.length : Int) by omega), sameN]
    by_cases h : (!((((rd_T92 xs i).f0).toList) == (((rd_T92 ys i).f0).toList)) || (!((((rd_T92 xs i).f1).toList) == (((rd_T92 ys i).f1).toList)))) = true
    · simp only [if_pos h]
      exact Ev.now _
    · simp only [if_neg h]
      rw [w64 (by omega) (by omega)]
      exact ih (i + 1) (by omega) (by omega)
def resM (e f : Int) (xs : List S92) (e' f' : Int) (ys : List S92) : Bool := if e = e' then if f = f' then if xs.length = ys.length then sameN xs ys xs.length 0 else false else false else false
theorem spec_sameM (e f : Int) (xs : List S92) (e' f' : Int) (ys : List S92) (hx : xs.length ≤ 1048576) : Ev (fun k => spec_SameMatrix.f k e f xs e' f' ys) (resM e f xs e' f' ys) := by
  have H : Ev (fun k => spec_SameMatrix.j0 k true e f xs e' f' ys) false := by
    refine Ev.step (fun k => spec_SameMatrix.j0.eq_2 true e f xs e' f' ys k) ?_
    simp only [if_true]
    exact Ev.now _
  unfold spec_SameMatrix.f resM
  by_cases h1 : e = e'
  · by_cases h2 : f = f'
    · simp only [if_pos h1, if_pos h2]
      by_cases h3 : xs.length = ys.length
      · have hb : ((xs.length : Int) != (ys.length : Int)) = false := by
          rw [h3]
          exact bne_self_eq_false _
        simp only [hb, if_pos h3]
        refine Ev.step (fun k => spec_SameMatrix.j0.eq_2 false e f xs e' f' ys k) ?_
        simp only [Bool.false_eq_true, if_false]
        exact specM_l0 xs ys hx h3.symm e f e' f' xs.length 0 (by omega) (by omega)
      · have hb : ((xs.length : Int) != (ys.length : Int)) = true := by
          rw [bne_iff_ne]
          omega
        simp only [hb, if_neg h3]
        exact H
    · simp only [if_pos h1, if_neg h2]
      exact H
  · simp only [if_neg h1]
    exact H
theorem impl_sameM (e f : Int) (xs : List S92) (e' f' : Int) (ys : List S92) (hx : xs.length ≤ 1048576) : Ev (fun k => impl_SameMatrix.f k e f xs e' f' ys) (resM e f xs e' f' ys) := by
  unfold impl_SameMatrix.f impl_Frac.f resM
  by_cases h1 : e = e'
  · by_cases h2 : f = f'
    · simp only [if_pos h1, if_pos h2]
      by_cases h3 : xs.length = ys.length
      · simp only [if_pos (show (xs.length : Int) = (ys.length : Int) by omega), if_pos h3]
        exact Ev.bind (implM_l0 xs ys hx h3.symm xs.length 0 (by omega) (by omega)) (Ev.now _)
      · simp only [if_neg (show ¬ (xs.length : Int) = (ys.length : Int) by omega), if_neg h3, Option.bind_some]
        exact Ev.now _
    · simp only [if_pos h1, if_neg h2]
      exact Ev.now _
  · simp only [if_neg h1]
    exact Ev.now _
end SameMatrix
open SameMatrix in
theorem FnExactSameMatrix (e f : Int) (xs : List S111) (e' f' : Int) (ys : List S111) (hx : xs.length ≤ maxLen) (hsx : ∀ s ∈ xs, s.f0.size ≤ maxLen ∧ s.f1.size ≤ maxLen) (hy : ys.length ≤ maxLen) (hsy : ∀ s ∈ ys, s.f0.size ≤ maxLen ∧ s.f1.size ≤ maxLen) :
    ∃ k, laws_FnExactSameMatrix.f k e f xs e' f' ys = some true := by
  refine Ev.rounds ?_
  unfold laws_FnExactSameMatrix.f
  obtain ⟨r1, a1, a2, a3⟩ := szM e f xs hx hsx 1048576 (by omega) (by omega)
  refine Ev.bind a1 ?_
  by_cases h1 : r1 < 0
  · simp only [if_pos h1]
    exact Ev.now _
  · simp only [if_neg h1]
    obtain ⟨r2, b1, b2, b3⟩ := szM e' f' ys hy hsy r1 (by omega) a2
    refine Ev.bind b1 ?_
    by_cases h2 : r2 < 0
    · simp only [if_pos h2]
      exact Ev.now _
    · simp only [if_neg h2]
      have lx := a3 h1
      have ly := b3 h2
      have lx' : (conv xs).length ≤ 1048576 := by rw [conv_length]; exact lx
      have ly' : (conv ys).length ≤ 1048576 := by rw [conv_length]; exact ly
      refine Ev.bind (toM e f xs lx) ?_
      refine Ev.bind (toM e' f' ys ly) ?_
      refine Ev.bind (spec_sameM e f (conv xs) e' f' (conv ys) lx') ?_
      refine Ev.bind (toM e f xs lx) ?_
      refine Ev.bind (toM e' f' ys ly) ?_
      refine Ev.bind (impl_sameM e f (conv xs) e' f' (conv ys) lx') ?_
      simp only [bne_self_eq_false, Bool.false_eq_true, if_false]
      refine Ev.bind (toM e f xs lx) ?_
      refine Ev.bind (eqM e f (conv xs) lx') ?_
      simp only [if_true]
      refine Ev.bind (toM e' f' ys ly) ?_
      refine Ev.bind (eqM e' f' (conv ys) ly') ?_
      simp only [if_true]
      exact Ev.now _
end Go.Proofs.Ytpcjbnglolfaaaa.Pure
