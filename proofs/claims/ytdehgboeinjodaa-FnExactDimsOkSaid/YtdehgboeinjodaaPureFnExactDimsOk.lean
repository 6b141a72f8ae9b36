/- The program's DimsOk and the reference's give one answer, for every list of numbers, and leave it as it was. -/
import Derived.Test.YtdehgboeinjodaaPFnExactDimsOkx1
import Derived.Test.YtdehgboeinjodaaLib
import Derived.Test.YtdehgboeinjodaaWSized
namespace Go.Proofs.Ytdehgboeinjodaa.PrintWords
open Go.ChangeShapes Go.WideShapes
/-- The printed row names this lemma by a short name: it is the words' own. -/
theorem sized_ints {H : Type} {enc : TypeId × Value → H} {P : Program} {W : World} {base : Nat} {spare : Nat → Bool} {held : Bool} {t e : TypeId} {k : IntKind} {a : Option Addr} {len cap : Nat} {d : DataW H} {ps : List MemPlace} {ts : List TypeId} {ds : List (DataW H)} {j : Nat}
    (hsz : (DataW.weightsEach P ts ds).all (· ≤ reachBytes) = true) (ht : ts[j]? = some t) (hd : ds[j]? = some d) (hu : P.underlying t = some (.slice e)) (he : P.underlying e = some (.int k)) (hc : P.cellsOf e = 1) {B : Nat} (hB : P.bytesOf e = B)
    (h : DataW.Trod enc P W base spare held t (.slice a len cap) d ps) : len * B ≤ 140737488351232 :=
  Go.Proofs.YtdehgboeinjodaaW.PrintWords.sized_ints hsz ht hd hu he hc hB h
end Go.Proofs.Ytdehgboeinjodaa.PrintWords
namespace Go.Proofs.Ytdehgboeinjodaa.Pure
open Go.RowKit Go.Proofs.Ytdehgboeinjodaa.PFnExactDimsOk Go.Proofs.YtdehgboeinjodaaW.PrintWords Go.Proofs.YtdehgboeinjodaaW.PrintLast Go.Proofs.Ytdehgboeinjodaa.Lib
set_option linter.unusedSimpArgs false
set_option linter.unusedVariables false
namespace DimsOk
theorem toInt_l0 (xs : List Int) (hx : xs.length ≤ 140737488351232) (n : Nat) : ∀ (i : Int) (ys : List Int), 0 ≤ i → i + n = xs.length → ys.length = xs.length → (∀ j, j < i.toNat → ys[j]? = xs[j]?) →
    Ev (fun k => laws_toIntS.l0 k xs ys i) xs := by
  induction n with
  | zero =>
    intro i ys h0 hn hl H
    refine Ev.step (fun k => laws_toIntS.l0.eq_2 xs ys i k) ?_
    simp only [if_neg (show ¬ i < (xs.length : Int) by omega)]
    have e : ys = xs := by
      apply List.ext_getElem?
      intro j
      by_cases hj : j < i.toNat
      · exact H j hj
      · rw [List.getElem?_eq_none (by omega), List.getElem?_eq_none (by omega)]
    rw [e]
    exact Ev.now _
  | succ n ih =>
    intro i ys h0 hn hl H
    refine Ev.step (fun k => laws_toIntS.l0.eq_2 xs ys i k) ?_
    simp only [if_pos (show i < (xs.length : Int) by omega), if_pos h0, if_pos (show i < (ys.length : Int) by omega)]
    rw [w64 (by omega) (by omega)]
    refine ih (i + 1) _ (by omega) (by omega) (by rw [List.length_set]; exact hl) (fun j hj => ?_)
    rw [List.getElem?_set]
    by_cases e : i.toNat = j
    · subst e
      rw [if_pos rfl, if_pos (by omega)]
      unfold rd
      rw [List.getD_eq_getElem?_getD, List.getElem?_eq_getElem (by omega)]
      rfl
    · rw [if_neg e]
      exact H j (by omega)
theorem toInt (xs : List Int) (hx : xs.length * 8 ≤ 140737488351232) : Ev (fun k => laws_toIntS.f k xs) xs := by
  unfold laws_toIntS.f
  simp only [if_pos (show (0 : Int) ≤ (xs.length : Int) by omega), Int.toNat_natCast, if_pos (show xs.length ≤ 35184372088832 by omega)]
  exact toInt_l0 xs (by omega) xs.length 0 _ (by omega) (by omega) (by rw [List.length_replicate]) (fun j hj => by omega)
theorem eqInt_l0 (xs : List Int) (hx : xs.length ≤ 140737488351232) (n : Nat) : ∀ (i : Int), 0 ≤ i → i + n = xs.length → Ev (fun k => laws_eqIntS.l0 k xs xs i) true := by
  induction n with
  | zero =>
    intro i h0 hn
    refine Ev.step (fun k => laws_eqIntS.l0.eq_2 xs xs i k) ?_
    simp only [if_neg (show ¬ i < (xs.length : Int) by omega)]
    exact Ev.now _
  | succ n ih =>
    intro i h0 hn
    refine Ev.step (fun k => laws_eqIntS.l0.eq_2 xs xs i k) ?_
    simp only [if_pos (show i < (xs.length : Int) by omega), if_pos h0, if_true]
    rw [w64 (by omega) (by omega)]
    exact ih (i + 1) (by omega) (by omega)
theorem eqInt (xs : List Int) (hx : xs.length * 8 ≤ 140737488351232) : Ev (fun k => laws_eqIntS.f k xs xs) true := by
  unfold laws_eqIntS.f
  simp only [if_true]
  exact eqInt_l0 xs (by omega) xs.length 0 (by omega) (by omega)
/-- n of the numbers from place i on lie in 1 .. 5. -/
def dimsN (xs : List Int) : Nat → Int → Bool
  | 0, _ => true
  | n + 1, i => if 1 ≤ rd xs i ∧ rd xs i ≤ 5 then dimsN xs n (i + 1) else false
theorem spec_in (a b c : Int) : spec_l01In.f a b c = some (decide (b ≤ a ∧ a ≤ c)) := by
  unfold spec_l01In.f
  by_cases h : a ≥ b
  · rw [if_pos h]
    congr 1
    simp only [show b ≤ a from h, true_and]
  · rw [if_neg h, decide_eq_false (by omega)]
theorem impl_in (a b c : Int) : impl_inRange.f a b c = some (decide (b ≤ a ∧ a ≤ c)) := by
  unfold impl_inRange.f
  by_cases h : a ≥ b
  · rw [if_pos h]
    congr 1
    simp only [show b ≤ a from h, true_and]
  · rw [if_neg h, decide_eq_false (by omega)]
theorem spec_dims_l0 (xs : List Int) (hx : xs.length ≤ 140737488351232) (n : Nat) : ∀ (i : Int), 0 ≤ i → i + n = xs.length → Ev (fun k => spec_DimsOk.l0 k xs i) (dimsN xs n i) := by
  induction n with
  | zero =>
    intro i h0 hn
    refine Ev.step (fun k => spec_DimsOk.l0.eq_2 xs i k) ?_
    simp only [if_neg (show ¬ i < (xs.length : Int) by omega)]
    exact Ev.now _
  | succ n ih =>
    intro i h0 hn
    refine Ev.step (fun k => spec_DimsOk.l0.eq_2 xs i k) ?_
    simp only [if_pos (show i < (xs.length : Int) by omega), if_pos h0, spec_in, Option.bind_some, dimsN]
    by_cases h : 1 ≤ rd xs i ∧ rd xs i ≤ 5
    · simp only [decide_eq_true h, if_true, if_pos h]
      rw [w64 (by omega) (by omega)]
      exact ih (i + 1) (by omega) (by omega)
    · simp only [decide_eq_false h, Bool.false_eq_true, if_false, if_neg h]
      exact Ev.now _
def dimsR (xs : List Int) : Bool := decide (2 ≤ xs.length ∧ xs.length ≤ 8) && dimsN xs xs.length 0
theorem spec_dims (xs : List Int) (hx : xs.length ≤ 140737488351232) : Ev (fun k => spec_DimsOk.f k xs) (dimsR xs) := by
  unfold spec_DimsOk.f dimsR
  simp only [spec_in, Option.bind_some]
  by_cases h : 2 ≤ xs.length ∧ xs.length ≤ 8
  · simp only [decide_eq_true (show (2 : Int) ≤ (xs.length : Int) ∧ (xs.length : Int) ≤ 8 by omega), if_true, decide_eq_true h, Bool.true_and]
    exact spec_dims_l0 xs hx xs.length 0 (by omega) (by omega)
  · simp only [decide_eq_false (show ¬ ((2 : Int) ≤ (xs.length : Int) ∧ (xs.length : Int) ≤ 8) by omega), Bool.false_eq_true, if_false, decide_eq_false h, Bool.false_and]
    exact Ev.now _
theorem impl_dims_l0 (xs : List Int) (hx : xs.length ≤ 140737488351232) (n : Nat) : ∀ (i : Int), 0 ≤ i → i + n = xs.length →
    Ev (fun k => impl_DimsOk.l0 k xs xs (xs.length : Int) i) (decide (2 ≤ xs.length ∧ xs.length ≤ 8) && dimsN xs n i) := by
  induction n with
  | zero =>
    intro i h0 hn
    refine Ev.step (fun k => impl_DimsOk.l0.eq_2 xs xs (xs.length : Int) i k) ?_
    simp only [if_neg (show ¬ i < (xs.length : Int) by omega), impl_in, Option.bind_some, dimsN, Bool.and_true]
    rw [show decide (2 ≤ xs.length ∧ xs.length ≤ 8) = decide ((2 : Int) ≤ (xs.length : Int) ∧ (xs.length : Int) ≤ 8) from decide_eq_decide.2 (by omega)]
    exact Ev.now _
  | succ n ih =>
    intro i h0 hn
    refine Ev.step (fun k => impl_DimsOk.l0.eq_2 xs xs (xs.length : Int) i k) ?_
    unfold impl_isDim.f
    simp only [if_pos (show i < (xs.length : Int) by omega), if_pos h0, impl_in, Option.bind_some, dimsN]
    by_cases h : 1 ≤ rd xs i ∧ rd xs i ≤ 5
    · simp only [decide_eq_true h, if_true, if_pos h]
      rw [w64 (by omega) (by omega)]
      exact ih (i + 1) (by omega) (by omega)
    · simp only [decide_eq_false h, Bool.false_eq_true, if_false, if_neg h, Bool.and_false]
      exact Ev.now _
theorem impl_dims (xs : List Int) (hx : xs.length ≤ 140737488351232) : Ev (fun k => impl_DimsOk.f k xs) (dimsR xs) := by
  unfold impl_DimsOk.f dimsR
  exact impl_dims_l0 xs hx xs.length 0 (by omega) (by omega)
end DimsOk
theorem FnExactDimsOk : laws_FnExactDimsOk.Pure := by
  intro xs _ hs _
  refine Ev.rounds ?_
  unfold laws_FnExactDimsOk.f
  by_cases hb : (xs.length : Int) > 1048576
  · simp only [if_pos hb]
    exact Ev.now _
  · simp only [if_neg hb]
    refine Ev.bind (DimsOk.toInt xs hs) ?_
    refine Ev.bind (DimsOk.spec_dims xs (by omega)) ?_
    refine Ev.bind (DimsOk.toInt xs hs) ?_
    refine Ev.bind (DimsOk.impl_dims xs (by omega)) ?_
    simp only [bne_self_eq_false, Bool.false_eq_true, if_false]
    refine Ev.bind (DimsOk.toInt xs hs) ?_
    refine Ev.bind (DimsOk.eqInt xs hs) ?_
    simp only [if_true]
    exact Ev.now _
end Go.Proofs.Ytdehgboeinjodaa.Pure
