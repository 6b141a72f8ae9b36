/- The program's ChainWays and the reference's give one answer, for every list of numbers, and leave it as it was. -/
import Derived.Test.YtpcjbnglolfaaaaPFnExactChainWaysx2
import Derived.Test.YtpcjbnglolfaaaaLib
import Derived.Test.YtpcjbnglolfaaaaWSized
namespace Go.Proofs.Ytpcjbnglolfaaaa.PrintWords
open Go.ChangeShapes Go.WideShapes
/-- The printed row names this lemma by a short name: it is the words' own. -/
theorem sized_ints {H : Type} {enc : TypeId × Value → H} {P : Program} {W : World} {base : Nat} {spare : Nat → Bool} {held : Bool} {t e : TypeId} {k : IntKind} {a : Option Addr} {len cap : Nat} {d : DataW H} {ps : List MemPlace} {ts : List TypeId} {ds : List (DataW H)} {j : Nat}
    (hsz : (DataW.weightsEach P ts ds).all (· ≤ reachBytes) = true) (ht : ts[j]? = some t) (hd : ds[j]? = some d) (hu : P.underlying t = some (.slice e)) (he : P.underlying e = some (.int k)) (hc : P.cellsOf e = 1) {B : Nat} (hB : P.bytesOf e = B)
    (h : DataW.Trod enc P W base spare held t (.slice a len cap) d ps) : len * B ≤ 140737488351232 :=
  Go.Proofs.YtpcjbnglolfaaaaW.PrintWords.sized_ints hsz ht hd hu he hc hB h
end Go.Proofs.Ytpcjbnglolfaaaa.PrintWords
namespace Go.Proofs.Ytpcjbnglolfaaaa.Pure
open Go.RowKit Go.Proofs.Ytpcjbnglolfaaaa.PFnExactChainWays Go.Proofs.YtpcjbnglolfaaaaW.PrintWords Go.Proofs.YtpcjbnglolfaaaaW.PrintLast Go.Proofs.Ytpcjbnglolfaaaa.Lib
set_option linter.unusedSimpArgs false
set_option linter.unusedVariables false
namespace ChainWays
theorem toInt_l0 (xs : List Int) (hx : xs.length ≤ 140737488351232) (n : Nat) : ∀ (i : Int) (ys : List Int), 0 ≤ i → i + n = xs.length → ys.length = xs.length → (∀ j, j < i.toNat → ys[j]? = xs[j]?) →
    Ev (fun k => laws_toIntS.l0 k xs ys i) xs := by
  induction n with
  | zero =>
    intro i ys h0 hn hl H
    refine Ev.step (fun k => laws_toIntS.l0.eq_2 xs ys i k) ?_
    simp only [if_neg (show ¬ i < (xs.length : Int) by omega)]
    have e : ys = xs := by
      apply List.ext_getElem?
      intro j
      by_cases hj : j < i.toNat
      · exact H j hj
      · rw [List.getElem?_eq_none (by omega), List.getElem?_eq_none (by omega)]
    rw [e]
    exact Ev.now _
  | succ n ih =>
    intro i ys h0 hn hl H
    refine Ev.step (fun k => laws_toIntS.l0.eq_2 xs ys i k) ?_
    simp only [if_pos (show i < (xs.length : Int) by omega), if_pos h0, if_pos (show i < (ys.length : Int) by omega)]
    rw [w64 (by omega) (by omega)]
    refine ih (i + 1) _ (by omega) (by omega) (by rw [List.length_set]; exact hl) (fun j hj => ?_)
    rw [List.getElem?_set]
    by_cases e : i.toNat = j
    · subst e
      rw [if_pos rfl, if_pos (by omega)]
      unfold rd
      rw [List.getD_eq_getElem?_getD, List.getElem?_eq_getElem (by omega)]
      rfl
    · rw [if_neg e]
      exact H j (by omega)
theorem toInt (xs : List Int) (hx : xs.length * 8 ≤ 140737488351232) : Ev (fun k => laws_toIntS.f k xs) xs := by
  unfold laws_toIntS.f
  simp only [if_pos (show (0 : Int) ≤ (xs.length : Int) by omega), Int.toNat_natCast, if_pos (show xs.length ≤ 35184372088832 by omega)]
  exact toInt_l0 xs (by omega) xs.length 0 _ (by omega) (by omega) (by rw [List.length_replicate]) (fun j hj => by omega)
theorem eqInt_l0 (xs : List Int) (hx : xs.length ≤ 140737488351232) (n : Nat) : ∀ (i : Int), 0 ≤ i → i + n = xs.length → Ev (fun k => laws_eqIntS.l0 k xs xs i) true := by
  induction n with
  | zero =>
    intro i h0 hn
    refine Ev.step (fun k => laws_eqIntS.l0.eq_2 xs xs i k) ?_
    simp only [if_neg (show ¬ i < (xs.length : Int) by omega)]
    exact Ev.now _
  | succ n ih =>
    intro i h0 hn
    refine Ev.step (fun k => laws_eqIntS.l0.eq_2 xs xs i k) ?_
    simp only [if_pos (show i < (xs.length : Int) by omega), if_pos h0, if_true]
    rw [w64 (by omega) (by omega)]
    exact ih (i + 1) (by omega) (by omega)
theorem eqInt (xs : List Int) (hx : xs.length * 8 ≤ 140737488351232) : Ev (fun k => laws_eqIntS.f k xs xs) true := by
  unfold laws_eqIntS.f
  simp only [if_true]
  exact eqInt_l0 xs (by omega) xs.length 0 (by omega) (by omega)
/-- n of the numbers from place i on lie in 1 .. 5. -/
def dimsN (xs : List Int) : Nat → Int → Bool
  | 0, _ => true
  | n + 1, i => if 1 ≤ rd xs i ∧ rd xs i ≤ 5 then dimsN xs n (i + 1) else false
theorem spec_in (a b c : Int) : spec_l01In.f a b c = some (decide (b ≤ a ∧ a ≤ c)) := by
  unfold spec_l01In.f
  by_cases h : a ≥ b
  · rw [if_pos h]
    congr 1
    simp only [show b ≤ a from h, true_and]
  · rw [if_neg h, decide_eq_false (by omega)]
theorem impl_in (a b c : Int) : impl_inRange.f a b c = some (decide (b ≤ a ∧ a ≤ c)) := by
  unfold impl_inRange.f
  by_cases h : a ≥ b
  · rw [if_pos h]
    congr 1
    simp only [show b ≤ a from h, true_and]
  · rw [if_neg h, decide_eq_false (by omega)]
theorem spec_dims_l0 (xs : List Int) (hx : xs.length ≤ 140737488351232) (n : Nat) : ∀ (i : Int), 0 ≤ i → i + n = xs.length → Ev (fun k => spec_DimsOk.l0 k xs i) (dimsN xs n i) := by
  induction n with
  | zero =>
    intro i h0 hn
    refine Ev.step (fun k => spec_DimsOk.l0.eq_2 xs i k) ?_
    simp only [if_neg (show ¬ i < (xs.length : Int) by omega)]
    exact Ev.now _
  | succ n ih =>
    intro i h0 hn
    refine Ev.step (fun k => spec_DimsOk.l0.eq_2 xs i k) ?_
    simp only [if_pos (show i < (xs.length : Int) by omega), if_pos h0, spec_in, Option.bind_some, dimsN]
    by_cases h : 1 ≤ rd xs i ∧ rd xs i ≤ 5
    · simp only [decide_eq_true h, if_true, if_pos h]
      rw [w64 (by omega) (by omega)]
      exact ih (i + 1) (by omega) (by omega)
    · simp only [decide_eq_false h, Bool.false_eq_true, if_false, if_neg h]
      exact Ev.now _
def dimsR (xs : List Int) : Bool := decide (2 ≤ xs.length ∧ xs.length ≤ 8) && dimsN xs xs.length 0
theorem spec_dims (xs : List Int) (hx : xs.length ≤ 140737488351232) : Ev (fun k => spec_DimsOk.f k xs) (dimsR xs) := by
  unfold spec_DimsOk.f dimsR
  simp only [spec_in, Option.bind_some]
  by_cases h : 2 ≤ xs.length ∧ xs.length ≤ 8
  · simp only [decide_eq_true (show (2 : Int) ≤ (xs.length : Int) ∧ (xs.length : Int) ≤ 8 by omega), if_true, decide_eq_true h, Bool.true_and]
    exact spec_dims_l0 xs hx xs.length 0 (by omega) (by omega)
  · simp only [decide_eq_false (show ¬ ((2 : Int) ≤ (xs.length : Int) ∧ (xs.length : Int) ≤ 8) by omega), Bool.false_eq_true, if_false, decide_eq_false h, Bool.false_and]
    exact Ev.now _
theorem impl_dims_l0 (xs : List Int) (hx : xs.length ≤ 140737488351232) (n : Nat) : ∀ (i : Int), 0 ≤ i → i + n = xs.length →
    Ev (fun k => impl_DimsOk.l0 k xs xs (xs.length : Int) i) (decide (2 ≤ xs.length ∧ xs.length ≤ 8) && dimsN xs n i) := by
  induction n with
  | zero =>
    intro i h0 hn
    refine Ev.step (fun k => impl_DimsOk.l0.eq_2 xs xs (xs.length : Int) i k) ?_
    simp only [if_neg (show ¬ i < (xs.length : Int) by omega), impl_in, Option.bind_some, dimsN, Bool.and_true]
    rw [show decide (2 ≤ xs.length ∧ xs.length ≤ 8) = decide ((2 : Int) ≤ (xs.length : Int) ∧ (xs.length : Int) ≤ 8) from decide_eq_decide.2 (by omega)]
    exact Ev.now _
  | succ n ih =>
    intro i h0 hn
    refine Ev.step (fun k => impl_DimsOk.l0.eq_2 xs xs (xs.length : Int) i k) ?_
    unfold impl_isDim.f
    simp only [if_pos (show i < (xs.length : Int) by omega), if_pos h0, impl_in, Option.bind_some, dimsN]
    by_cases h : 1 ≤ rd xs i ∧ rd xs i ≤ 5
    · simp only [decide_eq_true h, if_true, if_pos h]
      rw [w64 (by omega) (by omega)]
      exact ih (i + 1) (by omega) (by omega)
    · simp only [decide_eq_false h, Bool.false_eq_true, if_false, if_neg h, Bool.and_false]
      exact Ev.now _
theorem impl_dims (xs : List Int) (hx : xs.length ≤ 140737488351232) : Ev (fun k => impl_DimsOk.f k xs) (dimsR xs) := by
  unfold impl_DimsOk.f dimsR
  exact impl_dims_l0 xs hx xs.length 0 (by omega) (by omega)
/-- The program's count looks at the list's length alone. -/
theorem ways_len (xs ys : List Int) (h : xs.length = ys.length) : ∀ k, (∀ a b, impl_ChainWays.l0 k xs a b = impl_ChainWays.l0 k ys a b) ∧ (∀ a b c d, impl_ChainWays.l1 k xs a b c d = impl_ChainWays.l1 k ys a b c d) := by
  intro k
  induction k with
  | zero => exact ⟨fun _ _ => rfl, fun _ _ _ _ => rfl⟩
  | succ k ih =>
    refine ⟨fun a b => ?_, fun a b c d => ?_⟩
    · rw [impl_ChainWays.l0.eq_2, impl_ChainWays.l0.eq_2, h]
      simp only [ih.2]
    · rw [impl_ChainWays.l1.eq_2, impl_ChainWays.l1.eq_2]
      simp only [ih.1, ih.2]
def waysN : Nat → Int
  | 2 => 1
  | 3 => 1
  | 4 => 2
  | 5 => 5
  | 6 => 14
  | 7 => 42
  | _ => 132
theorem ways_spec : ∀ n : Nat, 2 ≤ n → n ≤ 8 → spec_l09Ways.f 60 ((n : Int) - 1) = some (waysN n) := by
  intro n h1 h2
  have h' : n = 2 ∨ n = 3 ∨ n = 4 ∨ n = 5 ∨ n = 6 ∨ n = 7 ∨ n = 8 := by omega
  rcases h' with rfl | rfl | rfl | rfl | rfl | rfl | rfl <;> decide +kernel
theorem ways_impl : ∀ n : Nat, 2 ≤ n → n ≤ 8 → impl_ChainWays.l0 60 (List.replicate n 0) [0, 1] 2 = some (waysN n) := by
  intro n h1 h2
  have h' : n = 2 ∨ n = 3 ∨ n = 4 ∨ n = 5 ∨ n = 6 ∨ n = 7 ∨ n = 8 := by omega
  rcases h' with rfl | rfl | rfl | rfl | rfl | rfl | rfl <;> decide +kernel
theorem ways_both (xs : List Int) (hx : xs.length ≤ 140737488351232) : ∃ r, Ev (fun k => spec_ChainWays.f k xs) r ∧ Ev (fun k => impl_ChainWays.f k xs) r := by
  by_cases hd : dimsR xs = true
  · have hl : 2 ≤ xs.length ∧ xs.length ≤ 8 := by
      unfold dimsR at hd
      simp only [Bool.and_eq_true, decide_eq_true_eq] at hd
      exact hd.1
    refine ⟨waysN xs.length, ?_, ?_⟩
    · unfold spec_ChainWays.f
      refine Ev.bind (spec_dims xs hx) ?_
      simp only [hd, if_true]
      rw [w64 (by omega) (by omega)]
      exact Ev.bind (Ev.of (fun k => (spec_l09Ways.mono_l k).1 _) (ways_spec xs.length hl.1 hl.2)) (Ev.now _)
    · unfold impl_ChainWays.f
      refine Ev.bind (impl_dims xs hx) ?_
      simp only [hd, if_true]
      refine Ev.of (fun k => (impl_ChainWays.mono_l k).1 _ _ _) (k := 60) ?_
      rw [(ways_len xs (List.replicate xs.length 0) (by rw [List.length_replicate]) 60).1]
      exact ways_impl xs.length hl.1 hl.2
  · have hd' : dimsR xs = false := by
      cases h : dimsR xs
      · rfl
      · exact absurd h hd
    refine ⟨0, ?_, ?_⟩
    · unfold spec_ChainWays.f
      refine Ev.bind (spec_dims xs hx) ?_
      simp only [hd', Bool.false_eq_true, if_false]
      exact Ev.now _
    · unfold impl_ChainWays.f
      refine Ev.bind (impl_dims xs hx) ?_
      simp only [hd', Bool.false_eq_true, if_false]
      exact Ev.now _
end ChainWays
theorem FnExactChainWays : laws_FnExactChainWays.Pure := by
  intro xs _ hs _
  refine Ev.rounds ?_
  unfold laws_FnExactChainWays.f
  by_cases hb : (xs.length : Int) > 1048576
  · simp only [if_pos hb]
    exact Ev.now _
  · simp only [if_neg hb]
    obtain ⟨r, h1, h2⟩ := ChainWays.ways_both xs (by omega)
    refine Ev.bind (ChainWays.toInt xs hs) ?_
    refine Ev.bind h1 ?_
    refine Ev.bind (ChainWays.toInt xs hs) ?_
    refine Ev.bind h2 ?_
    simp only [if_true]
    refine Ev.bind (ChainWays.toInt xs hs) ?_
    refine Ev.bind (ChainWays.eqInt xs hs) ?_
    simp only [if_true]
    exact Ev.now _
end Go.Proofs.Ytpcjbnglolfaaaa.Pure
