/- The program's SameTree and the reference's give one answer, for any two lists of nodes of lists and texts no longer than maxLen. -/
import Derived.Test.YtokhjlaomgimmaaQFnExactSameTreex8
import Derived.Test.YtokhjlaomgimmaaLib
namespace Go.Proofs.Ytokhjlaomgimmaa.Pure
open Go.RowKit Go.Proofs.Ytokhjlaomgimmaa.PFnExactSameTree Go.Proofs.YtokhjlaomgimmaaW.PrintWords Go.Proofs.YtokhjlaomgimmaaW.PrintLast Go.Proofs.Ytokhjlaomgimmaa.Lib
set_option linter.unusedSimpArgs false
set_option linter.unusedVariables false
namespace SameTree
theorem toInt_l0 (xs : List Int) (hx : xs.length ≤ 140737488351232) (n : Nat) : ∀ (i : Int) (ys : List Int), 0 ≤ i → i + n = xs.length → ys.length = xs.length → (∀ j, j < i.toNat → ys[j]? = xs[j]?) →
    Ev (fun k => laws_toIntS.l0 k xs ys i) xs := by
  induction n with
  | zero =>
    intro i ys h0 hn hl H
    refine Ev.step (fun k => laws_toIntS.l0.eq_2 xs ys i k) ?_
    simp only [if_neg (show ¬ i < (xs.length : Int) by omega)]
    have e : ys = xs := by
      apply List.ext_getElem?
      intro j
      by_cases hj : j < i.toNat
      · exact H j hj
      · rw [List.getElem?_eq_none (by omega), List.getElem?_eq_none (by omega)]
    rw [e]
    exact Ev.now _
  | succ n ih =>
    intro i ys h0 hn hl H
    refine Ev.step (fun k => laws_toIntS.l0.eq_2 xs ys i k) ?_
    simp only [if_pos (show i < (xs.length : Int) by omega), if_pos h0, if_pos (show i < (ys.length : Int) by omega)]
    rw [w64 (by omega) (by omega)]
    refine ih (i + 1) _ (by omega) (by omega) (by rw [List.length_set]; exact hl) (fun j hj => ?_)
    rw [List.getElem?_set]
    by_cases e : i.toNat = j
    · subst e
      rw [if_pos rfl, if_pos (by omega)]
      unfold rd
      rw [List.getD_eq_getElem?_getD, List.getElem?_eq_getElem (by omega)]
      rfl
    · rw [if_neg e]
      exact H j (by omega)
theorem toInt (xs : List Int) (hx : xs.length * 8 ≤ 140737488351232) : Ev (fun k => laws_toIntS.f k xs) xs := by
  unfold laws_toIntS.f
  simp only [if_pos (show (0 : Int) ≤ (xs.length : Int) by omega), Int.toNat_natCast, if_pos (show xs.length ≤ 35184372088832 by omega)]
  exact toInt_l0 xs (by omega) xs.length 0 _ (by omega) (by omega) (by rw [List.length_replicate]) (fun j hj => by omega)
theorem eqInt_l0 (xs : List Int) (hx : xs.length ≤ 140737488351232) (n : Nat) : ∀ (i : Int), 0 ≤ i → i + n = xs.length → Ev (fun k => laws_eqIntS.l0 k xs xs i) true := by
  induction n with
  | zero =>
    intro i h0 hn
    refine Ev.step (fun k => laws_eqIntS.l0.eq_2 xs xs i k) ?_
    simp only [if_neg (show ¬ i < (xs.length : Int) by omega)]
    exact Ev.now _
  | succ n ih =>
    intro i h0 hn
    refine Ev.step (fun k => laws_eqIntS.l0.eq_2 xs xs i k) ?_
    simp only [if_pos (show i < (xs.length : Int) by omega), if_pos h0, if_true]
    rw [w64 (by omega) (by omega)]
    exact ih (i + 1) (by omega) (by omega)
theorem eqInt (xs : List Int) (hx : xs.length * 8 ≤ 140737488351232) : Ev (fun k => laws_eqIntS.f k xs xs) true := by
  unfold laws_eqIntS.f
  simp only [if_true]
  exact eqInt_l0 xs (by omega) xs.length 0 (by omega) (by omega)
theorem szF (a b : ByteArray) (ha : a.size ≤ maxLen) (hb : b.size ≤ maxLen) (left : Int) (l0 : 0 ≤ left) (l1 : left ≤ 1048576) : ∃ r, laws_szFrac.f a b left = some r ∧ r ≤ 1048576 := by
  have hm : maxLen = 9223372036854775807 := rfl
  unfold laws_szFrac.f
  have e1 : wrap64 (left - (a.size : Int)) = left - (a.size : Int) := w64 (by omega) (by omega)
  rw [e1]
  by_cases h : left - (a.size : Int) < 0
  · exact ⟨-1, by rw [if_pos h], by omega⟩
  · have e2 : wrap64 (left - (a.size : Int) - (b.size : Int)) = left - (a.size : Int) - (b.size : Int) := w64 (by omega) (by omega)
    rw [if_neg h, e2]
    by_cases h' : left - (a.size : Int) - (b.size : Int) < 0
    · exact ⟨-1, by rw [if_pos h'], by omega⟩
    · exact ⟨_, by rw [if_neg h'], by omega⟩
theorem szFS_l0 (xs : List S82) (hx : xs.length ≤ 1048576) (hs : ∀ s ∈ xs, s.f0.size ≤ maxLen ∧ s.f1.size ≤ maxLen) (n : Nat) : ∀ (i left : Int), 0 ≤ i → i + n = xs.length → 0 ≤ left → left ≤ 1048576 →
    ∃ r, Ev (fun k => laws_szFracS.l0 k xs left i) r ∧ r ≤ 1048576 := by
  induction n with
  | zero =>
    intro i left h0 hn l0 l1
    refine ⟨left, ?_, l1⟩
    refine Ev.step (fun k => laws_szFracS.l0.eq_2 xs left i k) ?_
    simp only [if_neg (show ¬ i < (xs.length : Int) by omega)]
    exact Ev.now _
  | succ n ih =>
    intro i left h0 hn l0 l1
    have hz : (rd_T82 xs i).f0.size ≤ maxLen ∧ (rd_T82 xs i).f1.size ≤ maxLen := by
      unfold rd_T82
      rw [List.getD_eq_getElem?_getD, List.getElem?_eq_getElem (by omega)]
      exact hs _ (List.getElem_mem _)
    obtain ⟨q, hq, hq1⟩ := szF _ _ hz.1 hz.2 left l0 l1
    by_cases h : q < 0
    · refine ⟨-1, ?_, by omega⟩
      refine Ev.step (fun k => laws_szFracS.l0.eq_2 xs left i k) ?_
      simp only [if_pos (show i < (xs.length : Int) by omega), if_pos h0, hq, Option.bind_some, if_pos h]
      exact Ev.now _
    · obtain ⟨r, h1, h2⟩ := ih (i + 1) q (by omega) (by omega) (by omega) hq1
      refine ⟨r, ?_, h2⟩
      refine Ev.step (fun k => laws_szFracS.l0.eq_2 xs left i k) ?_
      simp only [if_pos (show i < (xs.length : Int) by omega), if_pos h0, hq, Option.bind_some, if_neg h]
      rw [w64 (by omega) (by omega)]
      exact h1
theorem szFS (xs : List S82) (hx : xs.length ≤ maxLen) (hs : ∀ s ∈ xs, s.f0.size ≤ maxLen ∧ s.f1.size ≤ maxLen) (left : Int) (l0 : 0 ≤ left) (l1 : left ≤ 1048576) :
    ∃ r, Ev (fun k => laws_szFracS.f k xs left) r ∧ r ≤ 1048576 ∧ (0 ≤ r → xs.length ≤ 1048576) := by
  have hm : maxLen = 9223372036854775807 := rfl
  unfold laws_szFracS.f
  have e1 : wrap64 (left - (xs.length : Int)) = left - (xs.length : Int) := w64 (by omega) (by omega)
  simp only [e1]
  by_cases h : left - (xs.length : Int) < 0
  · refine ⟨-1, ?_, by omega, by omega⟩
    simp only [if_pos h]
    exact Ev.now _
  · obtain ⟨r, h1, h2⟩ := szFS_l0 xs (by omega) hs xs.length 0 (left - (xs.length : Int)) (by omega) (by omega) (by omega) (by omega)
    refine ⟨r, ?_, h2, fun _ => by omega⟩
    simp only [if_neg h]
    exact h1
theorem szM (a b : Int) (xs : List S82) (hx : xs.length ≤ maxLen) (hs : ∀ s ∈ xs, s.f0.size ≤ maxLen ∧ s.f1.size ≤ maxLen) (left : Int) (l0 : 0 ≤ left) (l1 : left ≤ 1048576) :
    ∃ r, Ev (fun k => laws_szMatrix.f k a b xs left) r ∧ r ≤ 1048576 ∧ (¬ r < 0 → xs.length ≤ 1048576) := by
  obtain ⟨r, h1, h2, h3⟩ := szFS xs hx hs left l0 l1
  unfold laws_szMatrix.f
  by_cases h : r < 0
  · refine ⟨-1, Ev.bind h1 ?_, by omega, fun h' => absurd (by omega) h'⟩
    simp only [if_pos h]
    exact Ev.now _
  · refine ⟨r, Ev.bind h1 ?_, h2, fun _ => h3 (by omega)⟩
    simp only [if_neg h]
    exact Ev.now _
/-- The same fraction, as the program's. -/
def conv (xs : List S82) : List S43 := xs.map fun x => ⟨x.f0, x.f1⟩
theorem conv_length (xs : List S82) : (conv xs).length = xs.length := by simp [conv]
theorem toFS_l0 (xs : List S82) (hx : xs.length ≤ 1048576) (n : Nat) : ∀ (i : Int) (ys : List S43), 0 ≤ i → i + n = xs.length → ys.length = xs.length → (∀ j, j < i.toNat → ys[j]? = (conv xs)[j]?) →
    Ev (fun k => laws_toFracS.l0 k xs ys i) (conv xs) := by
  have hcl := conv_length xs
  induction n with
  | zero =>
    intro i ys h0 hn hl H
    refine Ev.step (fun k => laws_toFracS.l0.eq_2 xs ys i k) ?_
    simp only [if_neg (show ¬ i < (xs.length : Int) by omega)]
    have e : ys = conv xs := by
      apply List.ext_getElem?
      intro j
      by_cases hj : j < i.toNat
      · exact H j hj
      · rw [List.getElem?_eq_none (by omega), List.getElem?_eq_none (by omega)]
    rw [e]
    exact Ev.now _
  | succ n ih =>
    intro i ys h0 hn hl H
    refine Ev.step (fun k => laws_toFracS.l0.eq_2 xs ys i k) ?_
    unfold laws_toFrac.f
    simp only [if_pos (show i < (xs.length : Int) by omega), if_pos h0, Option.bind_some, if_pos (show i < (ys.length : Int) by omega)]
    rw [w64 (by omega) (by omega)]
    refine ih (i + 1) _ (by omega) (by omega) (by rw [List.length_set]; exact hl) (fun j hj => ?_)
    rw [List.getElem?_set]
    by_cases e : i.toNat = j
    · subst e
      rw [if_pos rfl, if_pos (by omega)]
      unfold rd_T82 conv
      rw [List.getD_eq_getElem?_getD, List.getElem?_map, List.getElem?_eq_getElem (by omega)]
      rfl
    · rw [if_neg e]
      exact H j (by omega)
theorem toFS (xs : List S82) (hx : xs.length ≤ 1048576) : Ev (fun k => laws_toFracS.f k xs) (conv xs) := by
  unfold laws_toFracS.f
  simp only [if_pos (show (0 : Int) ≤ (xs.length : Int) by omega), Int.toNat_natCast, if_pos (show xs.length ≤ 8796093022208 by omega)]
  exact toFS_l0 xs hx xs.length 0 _ (by omega) (by omega) (by rw [List.length_replicate]) (fun j hj => by omega)
theorem toM (a b : Int) (xs : List S82) (hx : xs.length ≤ 1048576) : Ev (fun k => laws_toMatrix.f k a b xs) (a, b, conv xs) := by
  unfold laws_toMatrix.f
  exact Ev.bind (toFS xs hx) (Ev.now _)
theorem eqFS_l0 (xs : List S43) (hx : xs.length ≤ 1048576) (n : Nat) : ∀ (i : Int), 0 ≤ i → i + n = xs.length → Ev (fun k => laws_eqFracS.l0 k xs xs i) true := by
  induction n with
  | zero =>
    intro i h0 hn
    refine Ev.step (fun k => laws_eqFracS.l0.eq_2 xs xs i k) ?_
    simp only [if_neg (show ¬ i < (xs.length : Int) by omega)]
    exact Ev.now _
  | succ n ih =>
    intro i h0 hn
    refine Ev.step (fun k => laws_eqFracS.l0.eq_2 xs xs i k) ?_
    unfold laws_eqFrac.f
    simp only [if_pos (show i < (xs.length : Int) by omega), if_pos h0, if_true, Option.bind_some]
    rw [w64 (by omega) (by omega)]
    exact ih (i + 1) (by omega) (by omega)
theorem eqM (a b : Int) (xs : List S43) (hx : xs.length ≤ 1048576) : Ev (fun k => laws_eqMatrix.f k a b xs a b xs) true := by
  unfold laws_eqMatrix.f laws_eqFracS.f
  simp only [if_true]
  refine Ev.bind (eqFS_l0 xs hx xs.length 0 (by omega) (by omega)) ?_
  simp only [if_true]
  exact Ev.now _
/-- n fractions from place i on are the same in both. -/
def sameN (xs ys : List S43) : Nat → Int → Bool
  | 0, _ => true
  | n + 1, i => if (!((((rd_T43 xs i).f0).toList) == (((rd_T43 ys i).f0).toList)) || (!((((rd_T43 xs i).f1).toList) == (((rd_T43 ys i).f1).toList)))) = true then false else sameN xs ys n (i + 1)
theorem specM_l0 (xs ys : List S43) (hx : xs.length ≤ 1048576) (hy : ys.length = xs.length) (e f e' f' : Int) (n : Nat) : ∀ (i : Int), 0 ≤ i → i + n = xs.length →
    Ev (fun k => spec_SameMatrix.l0 k i e f xs e' f' ys) (sameN xs ys n i) := by
  induction n with
  | zero =>
    intro i h0 hn
    refine Ev.step (fun k => spec_SameMatrix.l0.eq_2 i e f xs e' f' ys k) ?_
    simp only [if_neg (show ¬ i < (xs.length : Int) by omega)]
    exact Ev.now _
  | succ n ih =>
    intro i h0 hn
    refine Ev.step (fun k => spec_SameMatrix.l0.eq_2 i e f xs e' f' ys k) ?_
    simp only [if_pos (show i < (xs.length : Int) by omega), if_pos h0, if_pos (show i < (ys.length : Int) by omega), sameN]
    by_cases h : (!((((rd_T43 xs i).f0).toList) == (((rd_T43 ys i).f0).toList)) || (!((((rd_T43 xs i).f1).toList) == (((rd_T43 ys i).f1).toList)))) = true
    · simp only [if_pos h]
      exact Ev.now _
    · simp only [if_neg h]
      rw [w64 (by omega) (by omega)]
      exact ih (i + 1) (by omega) (by omega)
theorem implM_l0 (xs ys : List S43) (hx : xs.length ≤ 1048576) (hy : ys.length = xs.length) (n : Nat) : ∀ (i : Int), 0 ≤ i → i + n = xs.length →
    Ev (fun k => impl_Frac.l0 k xs ys (xs.length : Int) i) (sameN xs ys n i) := by
  induction n with
  | zero =>
    intro i h0 hn
    refine Ev.step (fun k => impl_Frac.l0.eq_2 xs ys (xs.length : Int) i k) ?_
    simp only [if_neg (show ¬ i < (xs.length : Int) by omega)]
    exact Ev.now _
  | succ n ih =>
    intro i h0 hn
    refine Ev.step (fun k => impl_Frac.l0.eq_2 xs ys (xs.length : Int) i k) ?_
    simp only [if_pos (show i < (xs.length : Int) by omega), if_pos h0, if_pos (show i < (ys.length : Int) by omega), sameN]
    by_cases h : (!((((rd_T43 xs i).f0).toList) == (((rd_T43 ys i).f0).toList)) || (!((((rd_T43 xs i).f1).toList) == (((rd_T43 ys i).f1).toList)))) = true
    · simp only [if_pos h]
      exact Ev.now _
    · simp only [if_neg h]
      rw [w64 (by omega) (by omega)]
      exact ih (i + 1) (by omega) (by omega)
def resM (e f : Int) (xs : List S43) (e' f' : Int) (ys : List S43) : Bool := if e = e' then if f = f' then if xs.length = ys.length then sameN xs ys xs.length 0 else false else false else false
theorem spec_sameM (e f : Int) (xs : List S43) (e' f' : Int) (ys : List S43) (hx : xs.length ≤ 1048576) : Ev (fun k => spec_SameMatrix.f k e f xs e' f' ys) (resM e f xs e' f' ys) := by
  have H : Ev (fun k => spec_SameMatrix.j0 k true e f xs e' f' ys) false := by
    refine Ev.step (fun k => spec_SameMatrix.j0.eq_2 true e f xs e' f' ys k) ?_
    simp only [if_true]
    exact Ev.now _
  unfold spec_SameMatrix.f resM
  by_cases h1 : e = e'
  · by_cases h2 : f = f'
    · simp only [if_pos h1, if_pos h2]
      by_cases h3 : xs.length = ys.length
      · have hb : ((xs.length : Int) != (ys.length : Int)) = false := by
          rw [h3]
          exact bne_self_eq_false _
        simp only [hb, if_pos h3]
        refine Ev.step (fun k => spec_SameMatrix.j0.eq_2 false e f xs e' f' ys k) ?_
        simp only [Bool.false_eq_true, if_false]
        exact specM_l0 xs ys hx h3.symm e f e' f' xs.length 0 (by omega) (by omega)
      · have hb : ((xs.length : Int) != (ys.length : Int)) = true := by
          rw [bne_iff_ne]
          omega
        simp only [hb, if_neg h3]
        exact H
    · simp only [if_pos h1, if_neg h2]
      exact H
  · simp only [if_neg h1]
    exact H
theorem impl_sameM (e f : Int) (xs : List S43) (e' f' : Int) (ys : List S43) (hx : xs.length ≤ 1048576) : Ev (fun k => impl_SameMatrix.f k e f xs e' f' ys) (resM e f xs e' f' ys) := by
  unfold impl_SameMatrix.f impl_Frac.f resM
  by_cases h1 : e = e'
  · by_cases h2 : f = f'
    · simp only [if_pos h1, if_pos h2]
      by_cases h3 : xs.length = ys.length
      · simp only [if_pos (show (xs.length : Int) = (ys.length : Int) by omega), if_pos h3]
        exact Ev.bind (implM_l0 xs ys hx h3.symm xs.length 0 (by omega) (by omega)) (Ev.now _)
      · simp only [if_neg (show ¬ (xs.length : Int) = (ys.length : Int) by omega), if_neg h3, Option.bind_some]
        exact Ev.now _
    · simp only [if_pos h1, if_neg h2]
      exact Ev.now _
  · simp only [if_neg h1]
    exact Ev.now _
theorem rd52 (xs : List S52) (i : Int) (h0 : 0 ≤ i) (h1 : i < (xs.length : Int)) : rd_T52 xs i ∈ xs := by
  unfold rd_T52
  rw [List.getD_eq_getElem?_getD, List.getElem?_eq_getElem (by omega)]
  exact List.getElem_mem _
/-- A node whose lists and texts are no longer than a machine's memory. -/
def Fits (x : S52) : Prop := x.f4.length ≤ maxLen ∧ x.f5.size ≤ maxLen ∧ x.f6.f2.length ≤ maxLen ∧ ∀ s ∈ x.f6.f2, s.f0.size ≤ maxLen ∧ s.f1.size ≤ maxLen
def Low (x : S52) : Prop := x.f4.length ≤ 1048576 ∧ x.f6.f2.length ≤ 1048576
theorem szI (xs : List Int) (hx : xs.length ≤ maxLen) (left : Int) (l0 : 0 ≤ left) (l1 : left ≤ 1048576) :
    ∃ r, laws_szIntS.f xs left = some r ∧ r ≤ 1048576 ∧ (¬ r < 0 → xs.length ≤ 1048576) := by
  have hm : maxLen = 9223372036854775807 := rfl
  unfold laws_szIntS.f
  have e1 : wrap64 (left - (xs.length : Int)) = left - (xs.length : Int) := w64 (by omega) (by omega)
  rw [e1]
  by_cases h : left - (xs.length : Int) < 0
  · exact ⟨-1, by rw [if_pos h], by omega, by omega⟩
  · exact ⟨_, by rw [if_neg h], by omega, by omega⟩
theorem szN (x : S52) (hx : Fits x) (left : Int) (l0 : 0 ≤ left) (l1 : left ≤ 1048576) :
    ∃ r, Ev (fun k => laws_szNode.f k x.f0 x.f1 x.f2 x.f3 x.f4 x.f5 x.f6.f0 x.f6.f1 x.f6.f2 x.f7 left) r ∧ r ≤ 1048576 ∧ (¬ r < 0 → Low x) := by
  have hm : maxLen = 9223372036854775807 := rfl
  obtain ⟨g4, g5, g6, g7⟩ := hx
  obtain ⟨q, hq, q1, q2⟩ := szI x.f4 g4 left l0 l1
  unfold laws_szNode.f
  simp only [hq, Option.bind_some]
  by_cases h : q < 0
  · refine ⟨-1, ?_, by omega, by omega⟩
    simp only [if_pos h]
    exact Ev.now _
  · have e1 : wrap64 (q - (x.f5.size : Int)) = q - (x.f5.size : Int) := w64 (by omega) (by omega)
    simp only [if_neg h, e1]
    by_cases h2 : q - (x.f5.size : Int) < 0
    · refine ⟨-1, ?_, by omega, by omega⟩
      simp only [if_pos h2]
      exact Ev.now _
    · simp only [if_neg h2]
      obtain ⟨r, r1, r2, r3⟩ := szM x.f6.f0 x.f6.f1 x.f6.f2 g6 g7 (q - (x.f5.size : Int)) (by omega) (by omega)
      by_cases h3 : r < 0
      · refine ⟨-1, Ev.bind r1 ?_, by omega, by omega⟩
        simp only [if_pos h3]
        exact Ev.now _
      · refine ⟨r, Ev.bind r1 ?_, r2, fun _ => ⟨q2 h, r3 h3⟩⟩
        simp only [if_neg h3]
        exact Ev.now _
theorem szNS_l0 (xs : List S52) (hx : xs.length ≤ 1048576) (hs : ∀ s ∈ xs, Fits s) (n : Nat) : ∀ (i left : Int), 0 ≤ i → i + n = xs.length → 0 ≤ left → left ≤ 1048576 →
    ∃ r, Ev (fun k => laws_szNodeS.l0 k xs left i) r ∧ r ≤ 1048576 ∧ (¬ r < 0 → ∀ j : Int, i ≤ j → j < xs.length → Low (rd_T52 xs j)) := by
  induction n with
  | zero =>
    intro i left h0 hn l0 l1
    refine ⟨left, ?_, l1, fun _ j h1 h2 => by omega⟩
    refine Ev.step (fun k => laws_szNodeS.l0.eq_2 xs left i k) ?_
    simp only [if_neg (show ¬ i < (xs.length : Int) by omega)]
    exact Ev.now _
  | succ n ih =>
    intro i left h0 hn l0 l1
    obtain ⟨q, hq, q1, q2⟩ := szN (rd_T52 xs i) (hs _ (rd52 xs i h0 (by omega))) left l0 l1
    by_cases h : q < 0
    · refine ⟨-1, ?_, by omega, by omega⟩
      refine Ev.step (fun k => laws_szNodeS.l0.eq_2 xs left i k) ?_
      simp only [if_pos (show i < (xs.length : Int) by omega), if_pos h0]
      refine Ev.bind hq ?_
      simp only [if_pos h]
      exact Ev.now _
    · obtain ⟨r, h1, h2, h3⟩ := ih (i + 1) q (by omega) (by omega) (by omega) q1
      refine ⟨r, ?_, h2, fun hr j j0 j1 => ?_⟩
      · refine Ev.step (fun k => laws_szNodeS.l0.eq_2 xs left i k) ?_
        simp only [if_pos (show i < (xs.length : Int) by omega), if_pos h0]
        refine Ev.bind hq ?_
        simp only [if_neg h]
        rw [w64 (by omega) (by omega)]
        exact h1
      · by_cases hj : j = i
        · subst hj; exact q2 h
        · exact h3 hr j (by omega) j1
theorem szNS (xs : List S52) (hx : xs.length ≤ maxLen) (hs : ∀ s ∈ xs, Fits s) (left : Int) (l0 : 0 ≤ left) (l1 : left ≤ 1048576) :
    ∃ r, Ev (fun k => laws_szNodeS.f k xs left) r ∧ r ≤ 1048576 ∧ (¬ r < 0 → xs.length ≤ 1048576 ∧ ∀ j : Int, 0 ≤ j → j < xs.length → Low (rd_T52 xs j)) := by
  have hm : maxLen = 9223372036854775807 := rfl
  unfold laws_szNodeS.f
  have e1 : wrap64 (left - (xs.length : Int)) = left - (xs.length : Int) := w64 (by omega) (by omega)
  simp only [e1]
  by_cases h : left - (xs.length : Int) < 0
  · refine ⟨-1, ?_, by omega, by omega⟩
    simp only [if_pos h]
    exact Ev.now _
  · obtain ⟨r, h1, h2, h3⟩ := szNS_l0 xs (by omega) hs xs.length 0 (left - (xs.length : Int)) (by omega) (by omega) (by omega) (by omega)
    refine ⟨r, ?_, h2, fun hr => ⟨by omega, h3 hr⟩⟩
    simp only [if_neg h]
    exact h1
/-- The same node, as the program's. -/
def convN (x : S52) : S54 := ⟨x.f0, x.f1, x.f2, x.f3, x.f4, x.f5, ⟨x.f6.f0, x.f6.f1, conv x.f6.f2⟩, x.f7⟩
theorem toN (x : S52) (hx : Low x) : Ev (fun k => laws_toNode.f k x.f0 x.f1 x.f2 x.f3 x.f4 x.f5 x.f6.f0 x.f6.f1 x.f6.f2 x.f7) (x.f0, x.f1, x.f2, x.f3, x.f4, x.f5, x.f6.f0, x.f6.f1, conv x.f6.f2, x.f7) := by
  unfold laws_toNode.f
  refine Ev.bind (toInt x.f4 (by have := hx.1; omega)) ?_
  refine Ev.bind (toM x.f6.f0 x.f6.f1 x.f6.f2 hx.2) ?_
  exact Ev.now _
theorem toNS_l0 (xs : List S52) (hx : xs.length ≤ 1048576) (hs : ∀ j : Int, 0 ≤ j → j < xs.length → Low (rd_T52 xs j)) (n : Nat) : ∀ (i : Int) (ys : List S54), 0 ≤ i → i + n = xs.length → ys.length = xs.length → (∀ j, j < i.toNat → ys[j]? = (xs.map convN)[j]?) →
    Ev (fun k => laws_toNodeS.l0 k xs ys i) (xs.map convN) := by
  have hcl : (xs.map convN).length = xs.length := List.length_map ..
  induction n with
  | zero =>
    intro i ys h0 hn hl H
    refine Ev.step (fun k => laws_toNodeS.l0.eq_2 xs ys i k) ?_
    simp only [if_neg (show ¬ i < (xs.length : Int) by omega)]
    have e : ys = xs.map convN := by
      apply List.ext_getElem?
      intro j
      by_cases hj : j < i.toNat
      · exact H j hj
      · rw [List.getElem?_eq_none (by omega), List.getElem?_eq_none (by omega)]
    rw [e]
    exact Ev.now _
  | succ n ih =>
    intro i ys h0 hn hl H
    refine Ev.step (fun k => laws_toNodeS.l0.eq_2 xs ys i k) ?_
    simp only [if_pos (show i < (xs.length : Int) by omega), if_pos h0]
    refine Ev.bind (toN (rd_T52 xs i) (hs i h0 (by omega))) ?_
    simp only [if_pos (show i < (ys.length : Int) by omega)]
    rw [w64 (by omega) (by omega)]
    refine ih (i + 1) _ (by omega) (by omega) (by rw [List.length_set]; exact hl) (fun j hj => ?_)
    rw [List.getElem?_set]
    by_cases e : i.toNat = j
    · subst e
      rw [if_pos rfl, if_pos (by omega)]
      unfold rd_T52
      rw [List.getD_eq_getElem?_getD, List.getElem?_map, List.getElem?_eq_getElem (by omega)]
      rfl
    · rw [if_neg e]
      exact H j (by omega)
theorem toNS (xs : List S52) (hx : xs.length ≤ 1048576) (hs : ∀ j : Int, 0 ≤ j → j < xs.length → Low (rd_T52 xs j)) : Ev (fun k => laws_toNodeS.f k xs) (xs.map convN) := by
  unfold laws_toNodeS.f
  simp only [if_pos (show (0 : Int) ≤ (xs.length : Int) by omega), Int.toNat_natCast, if_pos (show xs.length ≤ 2345624805922 by omega)]
  exact toNS_l0 xs hx hs xs.length 0 _ (by omega) (by omega) (by rw [List.length_replicate]) (fun j hj => by omega)
def LowS (y : S54) : Prop := y.f4.length ≤ 1048576 ∧ y.f6.f2.length ≤ 1048576
theorem low_conv (xs : List S52) (hs : ∀ j : Int, 0 ≤ j → j < xs.length → Low (rd_T52 xs j)) : ∀ j : Int, 0 ≤ j → j < (xs.map convN).length → LowS (rd_T54 (xs.map convN) j) := by
  intro j h0 h1
  rw [List.length_map] at h1
  have := hs j h0 h1
  have e : rd_T54 (xs.map convN) j = convN (rd_T52 xs j) := by
    unfold rd_T54 rd_T52
    rw [List.getD_eq_getElem?_getD, List.getD_eq_getElem?_getD, List.getElem?_map, List.getElem?_eq_getElem (by omega)]
    rfl
  rw [e]
  refine ⟨this.1, ?_⟩
  show (conv _).length ≤ _
  rw [conv_length]
  exact this.2
theorem eqN (y : S54) (hy : LowS y) : Ev (fun k => laws_eqNode.f k y.f0 y.f1 y.f2 y.f3 y.f4 y.f5 y.f6.f0 y.f6.f1 y.f6.f2 y.f7 y.f0 y.f1 y.f2 y.f3 y.f4 y.f5 y.f6.f0 y.f6.f1 y.f6.f2 y.f7) true := by
  unfold laws_eqNode.f
  simp only [if_true]
  refine Ev.bind (eqInt y.f4 (by have := hy.1; omega)) ?_
  simp only [if_true]
  refine Ev.bind (eqM y.f6.f0 y.f6.f1 y.f6.f2 hy.2) ?_
  simp only [if_true]
  exact Ev.now _
theorem eqNS_l0 (ys : List S54) (hx : ys.length ≤ 1048576) (hs : ∀ j : Int, 0 ≤ j → j < ys.length → LowS (rd_T54 ys j)) (n : Nat) : ∀ (i : Int), 0 ≤ i → i + n = ys.length → Ev (fun k => laws_eqNodeS.l0 k ys ys i) true := by
  induction n with
  | zero =>
    intro i h0 hn
    refine Ev.step (fun k => laws_eqNodeS.l0.eq_2 ys ys i k) ?_
    simp only [if_neg (show ¬ i < (ys.length : Int) by omega)]
    exact Ev.now _
  | succ n ih =>
    intro i h0 hn
    refine Ev.step (fun k => laws_eqNodeS.l0.eq_2 ys ys i k) ?_
    simp only [if_pos (show i < (ys.length : Int) by omega), if_pos h0]
    refine Ev.bind (eqN (rd_T54 ys i) (hs i h0 (by omega))) ?_
    simp only [if_true]
    rw [w64 (by omega) (by omega)]
    exact ih (i + 1) (by omega) (by omega)
theorem eqNS (ys : List S54) (hx : ys.length ≤ 1048576) (hs : ∀ j : Int, 0 ≤ j → j < ys.length → LowS (rd_T54 ys j)) : Ev (fun k => laws_eqNodeS.f k ys ys) true := by
  unfold laws_eqNodeS.f
  simp only [if_true]
  exact eqNS_l0 ys hx hs ys.length 0 (by omega) (by omega)
/-- n whole numbers from place i on are the same in both. -/
def sameI (xs ys : List Int) : Nat → Int → Bool
  | 0, _ => true
  | n + 1, i => if rd xs i = rd ys i then sameI xs ys n (i + 1) else false
theorem implI_l0 (xs ys : List Int) (hx : xs.length ≤ 1048576) (hy : ys.length = xs.length) (n : Nat) : ∀ (i : Int), 0 ≤ i → i + n = xs.length →
    Ev (fun k => slices_Equal_int_int.l0 k xs ys (xs.length : Int) i) (sameI xs ys n i) := by
  induction n with
  | zero =>
    intro i h0 hn
    refine Ev.step (fun k => slices_Equal_int_int.l0.eq_2 xs ys (xs.length : Int) i k) ?_
    simp only [if_neg (show ¬ i < (xs.length : Int) by omega)]
    exact Ev.now _
  | succ n ih =>
    intro i h0 hn
    refine Ev.step (fun k => slices_Equal_int_int.l0.eq_2 xs ys (xs.length : Int) i k) ?_
    simp only [if_pos (show i < (xs.length : Int) by omega), if_pos h0, if_pos (show i < (ys.length : Int) by omega), sameI]
    by_cases h : rd xs i = rd ys i
    · simp only [if_pos h]
      rw [w64 (by omega) (by omega)]
      exact ih (i + 1) (by omega) (by omega)
    · simp only [if_neg h]
      exact Ev.now _
def resI (xs ys : List Int) : Bool := if xs.length = ys.length then sameI xs ys xs.length 0 else false
theorem implI (xs ys : List Int) (hx : xs.length ≤ 1048576) : Ev (fun k => slices_Equal_int_int.f k xs ys) (resI xs ys) := by
  unfold slices_Equal_int_int.f resI
  by_cases h : xs.length = ys.length
  · simp only [if_pos (show (xs.length : Int) = (ys.length : Int) by omega), if_pos h]
    exact implI_l0 xs ys hx h.symm xs.length 0 (by omega) (by omega)
  · simp only [if_neg (show ¬ (xs.length : Int) = (ys.length : Int) by omega), if_neg h]
    exact Ev.now _
/-- Two nodes are the same, but for their places. -/
def resN (x y : S54) : Bool := if x.f0 = y.f0 then if x.f1 = y.f1 then if x.f2 = y.f2 then if x.f3 = y.f3 then if x.f5.toList = y.f5.toList then (resI x.f4 y.f4 && resM x.f6.f0 x.f6.f1 x.f6.f2 y.f6.f0 y.f6.f1 y.f6.f2) else false else false else false else false else false
theorem implN (x y : S54) (hx : LowS x) : Ev (fun k => impl_SameTreeEq.f k x.f0 x.f1 x.f2 x.f3 x.f4 x.f5 x.f6.f0 x.f6.f1 x.f6.f2 x.f7 y.f0 y.f1 y.f2 y.f3 y.f4 y.f5 y.f6.f0 y.f6.f1 y.f6.f2 y.f7) (resN x y) := by
  unfold impl_SameTreeEq.f resN
  by_cases h0 : x.f0 = y.f0
  case neg => simp only [if_neg h0]; exact Ev.now _
  by_cases h1 : x.f1 = y.f1
  case neg => simp only [if_pos h0, if_neg h1]; exact Ev.now _
  by_cases h2 : x.f2 = y.f2
  case neg => simp only [if_pos h0, if_pos h1, if_neg h2]; exact Ev.now _
  by_cases h3 : x.f3 = y.f3
  case neg => simp only [if_pos h0, if_pos h1, if_pos h2, if_neg h3]; exact Ev.now _
  by_cases h5 : x.f5.toList = y.f5.toList
  case neg => simp only [if_pos h0, if_pos h1, if_pos h2, if_pos h3, if_neg h5]; exact Ev.now _
  simp only [if_pos h0, if_pos h1, if_pos h2, if_pos h3, if_pos h5]
  refine Ev.bind (implI x.f4 y.f4 hx.1) ?_
  cases hI : resI x.f4 y.f4 with
  | false => simp only [Bool.false_eq_true, if_false, Bool.false_and]; exact Ev.now _
  | true =>
    simp only [if_true, Bool.true_and]
    exact Ev.bind (impl_sameM x.f6.f0 x.f6.f1 x.f6.f2 y.f6.f0 y.f6.f1 y.f6.f2 hx.2) (Ev.now _)
def resT (xs ys : List S54) : Nat → Int → Bool
  | 0, _ => true
  | n + 1, i => if resN (rd_T54 xs i) (rd_T54 ys i) = true then resT xs ys n (i + 1) else false
theorem implT_l0 (xs ys : List S54) (hx : xs.length ≤ 1048576) (hy : ys.length = xs.length) (hs : ∀ j : Int, 0 ≤ j → j < xs.length → LowS (rd_T54 xs j)) (n : Nat) : ∀ (i : Int), 0 ≤ i → i + n = xs.length →
    Ev (fun k => impl_Node.l0 k ys xs (xs.length : Int) i) (resT xs ys n i) := by
  induction n with
  | zero =>
    intro i h0 hn
    refine Ev.step (fun k => impl_Node.l0.eq_2 ys xs (xs.length : Int) i k) ?_
    simp only [if_neg (show ¬ i < (xs.length : Int) by omega)]
    exact Ev.now _
  | succ n ih =>
    intro i h0 hn
    refine Ev.step (fun k => impl_Node.l0.eq_2 ys xs (xs.length : Int) i k) ?_
    simp only [if_pos (show i < (xs.length : Int) by omega), if_pos h0, if_pos (show i < (ys.length : Int) by omega), resT]
    refine Ev.bind (implN (rd_T54 xs i) (rd_T54 ys i) (hs i h0 (by omega))) ?_
    by_cases h : resN (rd_T54 xs i) (rd_T54 ys i) = true
    · simp only [if_pos h]
      rw [w64 (by omega) (by omega)]
      exact ih (i + 1) (by omega) (by omega)
    · simp only [if_neg h]
      exact Ev.now _
theorem specI_l1 (X Y : List S54) (p : Int) (x y : S54) (hx : x.f4.length ≤ 1048576) (hy : y.f4.length = x.f4.length) (r : Bool) (hr : Ev (fun k => spec_SameTree.l0 k X Y (wrap64 (p + 1))) r) (n : Nat) : ∀ (j : Int), 0 ≤ j → j + n = x.f4.length →
    Ev (fun k => spec_SameTree.l1 k X Y p j x.f0 x.f1 x.f2 x.f3 x.f4 x.f5 x.f6.f0 x.f6.f1 x.f6.f2 x.f7 y.f0 y.f1 y.f2 y.f3 y.f4 y.f5 y.f6.f0 y.f6.f1 y.f6.f2 y.f7) (if sameI x.f4 y.f4 n j = true then r else false) := by
  induction n with
  | zero =>
    intro j h0 hn
    refine Ev.step (fun k => spec_SameTree.l1.eq_2 X Y p j _ _ _ _ _ _ _ _ _ _ _ _ _ _ _ _ _ _ _ _ k) ?_
    simp only [if_neg (show ¬ j < (x.f4.length : Int) by omega), sameI, if_true]
    exact hr
  | succ n ih =>
    intro j h0 hn
    refine Ev.step (fun k => spec_SameTree.l1.eq_2 X Y p j _ _ _ _ _ _ _ _ _ _ _ _ _ _ _ _ _ _ _ _ k) ?_
    simp only [if_pos (show j < (x.f4.length : Int) by omega), if_pos h0, if_pos (show j < (y.f4.length : Int) by omega), sameI]
    by_cases h : rd x.f4 j = rd y.f4 j
    · simp only [if_pos h]
      rw [w64 (by omega) (by omega)]
      exact ih (j + 1) (by omega) (by omega)
    · simp only [if_neg h, Bool.false_eq_true, if_false]
      exact Ev.now _
theorem specT_l0 (xs ys : List S54) (hx : xs.length ≤ 1048576) (hy : ys.length = xs.length) (hs : ∀ j : Int, 0 ≤ j → j < xs.length → LowS (rd_T54 xs j)) (n : Nat) : ∀ (i : Int), 0 ≤ i → i + n = xs.length →
    Ev (fun k => spec_SameTree.l0 k xs ys i) (resT xs ys n i) := by
  induction n with
  | zero =>
    intro i h0 hn
    refine Ev.step (fun k => spec_SameTree.l0.eq_2 xs ys i k) ?_
    simp only [if_neg (show ¬ i < (xs.length : Int) by omega)]
    exact Ev.now _
  | succ n ih =>
    intro i h0 hn
    have hL := hs i h0 (by omega)
    have IH : Ev (fun k => spec_SameTree.l0 k xs ys (wrap64 (i + 1))) (resT xs ys n (i + 1)) := by
      rw [w64 (n := i + 1) (by omega) (by omega)]
      exact ih (i + 1) (by omega) (by omega)
    refine Ev.step (fun k => spec_SameTree.l0.eq_2 xs ys i k) ?_
    simp only [if_pos (show i < (xs.length : Int) by omega), if_pos h0, if_pos (show i < (ys.length : Int) by omega), resT]
    generalize hX : rd_T54 xs i = x at *
    generalize hY : rd_T54 ys i = y at *
    have J : Ev (fun k => spec_SameTree.j1 k xs ys i true x.f0 x.f1 x.f2 x.f3 x.f4 x.f5 x.f6.f0 x.f6.f1 x.f6.f2 x.f7 y.f0 y.f1 y.f2 y.f3 y.f4 y.f5 y.f6.f0 y.f6.f1 y.f6.f2 y.f7) false := by
      refine Ev.step (fun k => spec_SameTree.j1.eq_2 xs ys i true _ _ _ _ _ _ _ _ _ _ _ _ _ _ _ _ _ _ _ _ k) ?_
      simp only [if_true]
      exact Ev.now _
    unfold resN
    by_cases h0 : x.f0 = y.f0
    case neg => simp only [if_neg h0, Bool.false_eq_true, if_false]; exact J
    by_cases h1 : x.f1 = y.f1
    case neg => simp only [if_pos h0, if_neg h1, Bool.false_eq_true, if_false]; exact J
    by_cases h2 : x.f2 = y.f2
    case neg => simp only [if_pos h0, if_pos h1, if_neg h2, Bool.false_eq_true, if_false]; exact J
    by_cases h3 : x.f3 = y.f3
    case neg => simp only [if_pos h0, if_pos h1, if_pos h2, if_neg h3, Bool.false_eq_true, if_false]; exact J
    by_cases h5 : x.f5.toList = y.f5.toList
    case neg => simp only [if_pos h0, if_pos h1, if_pos h2, if_pos h3, if_neg h5, Bool.false_eq_true, if_false]; exact J
    simp only [if_pos h0, if_pos h1, if_pos h2, if_pos h3, if_pos h5]
    unfold resI
    by_cases h4 : x.f4.length = y.f4.length
    case neg =>
      simp only [if_neg (show ¬ (x.f4.length : Int) = (y.f4.length : Int) by omega), if_neg h4, Bool.false_and, Bool.false_eq_true, if_false]
      exact J
    simp only [if_pos (show (x.f4.length : Int) = (y.f4.length : Int) by omega), if_pos h4]
    refine Ev.bind (spec_sameM x.f6.f0 x.f6.f1 x.f6.f2 y.f6.f0 y.f6.f1 y.f6.f2 hL.2) ?_
    cases hM : resM x.f6.f0 x.f6.f1 x.f6.f2 y.f6.f0 y.f6.f1 y.f6.f2 with
    | false =>
      simp only [Bool.and_false, Bool.false_eq_true, if_false, Bool.not_false]
      exact J
    | true =>
      simp only [Bool.and_true, Bool.not_true]
      refine Ev.step (fun k => spec_SameTree.j1.eq_2 xs ys i false _ _ _ _ _ _ _ _ _ _ _ _ _ _ _ _ _ _ _ _ k) ?_
      simp only [Bool.false_eq_true, if_false]
      exact specI_l1 xs ys i x y hL.1 h4.symm _ IH x.f4.length 0 (by omega) (by omega)
def resTree (xs ys : List S54) : Bool := if xs.length = ys.length then resT xs ys xs.length 0 else false
theorem spec_tree (xs ys : List S54) (hx : xs.length ≤ 1048576) (hs : ∀ j : Int, 0 ≤ j → j < xs.length → LowS (rd_T54 xs j)) : Ev (fun k => spec_SameTree.f k xs ys) (resTree xs ys) := by
  unfold spec_SameTree.f resTree
  by_cases h : xs.length = ys.length
  · simp only [if_pos (show (xs.length : Int) = (ys.length : Int) by omega), if_pos h]
    exact specT_l0 xs ys hx h.symm hs xs.length 0 (by omega) (by omega)
  · simp only [if_neg (show ¬ (xs.length : Int) = (ys.length : Int) by omega), if_neg h]
    exact Ev.now _
theorem impl_tree (xs ys : List S54) (hx : xs.length ≤ 1048576) (hs : ∀ j : Int, 0 ≤ j → j < xs.length → LowS (rd_T54 xs j)) : Ev (fun k => impl_SameTree.f k xs ys) (resTree xs ys) := by
  unfold impl_SameTree.f impl_Node.f resTree
  by_cases h : xs.length = ys.length
  · simp only [if_pos (show (xs.length : Int) = (ys.length : Int) by omega), if_pos h]
    exact Ev.bind (implT_l0 xs ys hx h.symm hs xs.length 0 (by omega) (by omega)) (Ev.now _)
  · simp only [if_neg (show ¬ (xs.length : Int) = (ys.length : Int) by omega), if_neg h, Option.bind_some]
    exact Ev.now _
end SameTree
open SameTree in
theorem FnExactSameTree (l0 l1 : List S52) (h0 : l0.length ≤ maxLen) (f0 : ∀ s ∈ l0, SameTree.Fits s) (h1 : l1.length ≤ maxLen) (f1 : ∀ s ∈ l1, SameTree.Fits s) :
    ∃ k, laws_FnExactSameTree.f k l0 l1 = some true := by
  refine Ev.rounds ?_
  unfold laws_FnExactSameTree.f
  obtain ⟨r1, a1, a2, a3⟩ := szNS l0 h0 f0 1048576 (by omega) (by omega)
  refine Ev.bind a1 ?_
  by_cases g1 : r1 < 0
  · simp only [if_pos g1]
    exact Ev.now _
  simp only [if_neg g1]
  obtain ⟨r2, b1, b2, b3⟩ := szNS l1 h1 f1 r1 (by omega) a2
  refine Ev.bind b1 ?_
  by_cases g2 : r2 < 0
  · simp only [if_pos g2]
    exact Ev.now _
  simp only [if_neg g2]
  obtain ⟨m0, w0⟩ := a3 g1
  obtain ⟨m1, w1⟩ := b3 g2
  have t0 := toNS l0 m0 w0
  have t1 := toNS l1 m1 w1
  have n0 : (l0.map convN).length ≤ 1048576 := by rw [List.length_map]; exact m0
  have n1 : (l1.map convN).length ≤ 1048576 := by rw [List.length_map]; exact m1
  have s0 := low_conv l0 w0
  have s1 := low_conv l1 w1
  refine Ev.bind t0 ?_
  refine Ev.bind t1 ?_
  refine Ev.bind (spec_tree _ _ n0 s0) ?_
  refine Ev.bind t0 ?_
  refine Ev.bind t1 ?_
  refine Ev.bind (impl_tree _ _ n0 s0) ?_
  simp only [bne_self_eq_false, Bool.false_eq_true, if_false]
  refine Ev.bind t0 ?_
  refine Ev.bind (eqNS _ n0 s0) ?_
  simp only [if_true]
  refine Ev.bind t1 ?_
  refine Ev.bind (eqNS _ n1 s1) ?_
  simp only [if_true]
  exact Ev.now _
end Go.Proofs.Ytokhjlaomgimmaa.Pure
