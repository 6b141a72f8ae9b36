/- The program's CostOf and the reference's give one answer, for every list of numbers and every text, and leave them as they were. -/
import Derived.Test.YtpcjbnglolfaaaaQFnExactCostOfx4
import Derived.Test.YtpcjbnglolfaaaaCostTie
import Derived.Test.YtpcjbnglolfaaaaLib
import Derived.Test.YtpcjbnglolfaaaaWSized
namespace Go.Proofs.Ytpcjbnglolfaaaa.PrintWords
open Go.ChangeShapes Go.WideShapes
/-- The printed row names this lemma by a short name: it is the words' own. -/
theorem sized_ints {H : Type} {enc : TypeId × Value → H} {P : Program} {W : World} {base : Nat} {spare : Nat → Bool} {held : Bool} {t e : TypeId} {k : IntKind} {a : Option Addr} {len cap : Nat} {d : DataW H} {ps : List MemPlace} {ts : List TypeId} {ds : List (DataW H)} {j : Nat}
    (hsz : (DataW.weightsEach P ts ds).all (· ≤ reachBytes) = true) (ht : ts[j]? = some t) (hd : ds[j]? = some d) (hu : P.underlying t = some (.slice e)) (he : P.underlying e = some (.int k)) (hc : P.cellsOf e = 1) {B : Nat} (hB : P.bytesOf e = B)
    (h : DataW.Trod enc P W base spare held t (.slice a len cap) d ps) : len * B ≤ 140737488351232 :=
  Go.Proofs.YtpcjbnglolfaaaaW.PrintWords.sized_ints hsz ht hd hu he hc hB h
end Go.Proofs.Ytpcjbnglolfaaaa.PrintWords
namespace Go.Proofs.Ytpcjbnglolfaaaa.Pure
open Go.RowKit Go.Proofs.Ytpcjbnglolfaaaa.PFnExactCostOf Go.Proofs.YtpcjbnglolfaaaaW.PrintWords Go.Proofs.YtpcjbnglolfaaaaW.PrintLast Go.Proofs.Ytpcjbnglolfaaaa.Lib Go.Proofs.Ytpcjbnglolfaaaa.Parse
set_option linter.unusedSimpArgs false
set_option linter.unusedVariables false
namespace CostOf
theorem toInt_l0 (xs : List Int) (hx : xs.length ≤ 140737488351232) (n : Nat) : ∀ (i : Int) (ys : List Int), 0 ≤ i → i + n = xs.length → ys.length = xs.length → (∀ j, j < i.toNat → ys[j]? = xs[j]?) →
    Ev (fun k => laws_toIntS.l0 k xs ys i) xs := by
  induction n with
  | zero =>
    intro i ys h0 hn hl H
    refine Ev.step (fun k => laws_toIntS.l0.eq_2 xs ys i k) ?_
    simp only [if_neg (show ¬ i < (xs.length : Int) by omega)]
    have e : ys = xs := by
      apply List.ext_getElem?
      intro j
      by_cases hj : j < i.toNat
      · exact H j hj
      · rw [List.getElem?_eq_none (by omega), List.getElem?_eq_none (by omega)]
    rw [e]
    exact Ev.now _
  | succ n ih =>
    intro i ys h0 hn hl H
    refine Ev.step (fun k => laws_toIntS.l0.eq_2 xs ys i k) ?_
    simp only [if_pos (show i < (xs.length : Int) by omega), if_pos h0, if_pos (show i < (ys.length : Int) by omega)]
    rw [w64 (by omega) (by omega)]
    refine ih (i + 1) _ (by omega) (by omega) (by rw [List.length_set]; exact hl) (fun j hj => ?_)
    rw [List.getElem?_set]
    by_cases e : i.toNat = j
    · subst e
      rw [if_pos rfl, if_pos (by omega)]
      unfold rd
      rw [List.getD_eq_getElem?_getD, List.getElem?_eq_getElem (by omega)]
      rfl
    · rw [if_neg e]
      exact H j (by omega)
theorem toInt (xs : List Int) (hx : xs.length * 8 ≤ 140737488351232) : Ev (fun k => laws_toIntS.f k xs) xs := by
  unfold laws_toIntS.f
  simp only [if_pos (show (0 : Int) ≤ (xs.length : Int) by omega), Int.toNat_natCast, if_pos (show xs.length ≤ 35184372088832 by omega)]
  exact toInt_l0 xs (by omega) xs.length 0 _ (by omega) (by omega) (by rw [List.length_replicate]) (fun j hj => by omega)
theorem eqInt_l0 (xs : List Int) (hx : xs.length ≤ 140737488351232) (n : Nat) : ∀ (i : Int), 0 ≤ i → i + n = xs.length → Ev (fun k => laws_eqIntS.l0 k xs xs i) true := by
  induction n with
  | zero =>
    intro i h0 hn
    refine Ev.step (fun k => laws_eqIntS.l0.eq_2 xs xs i k) ?_
    simp only [if_neg (show ¬ i < (xs.length : Int) by omega)]
    exact Ev.now _
  | succ n ih =>
    intro i h0 hn
    refine Ev.step (fun k => laws_eqIntS.l0.eq_2 xs xs i k) ?_
    simp only [if_pos (show i < (xs.length : Int) by omega), if_pos h0, if_true]
    rw [w64 (by omega) (by omega)]
    exact ih (i + 1) (by omega) (by omega)
theorem eqInt (xs : List Int) (hx : xs.length * 8 ≤ 140737488351232) : Ev (fun k => laws_eqIntS.f k xs xs) true := by
  unfold laws_eqIntS.f
  simp only [if_true]
  exact eqInt_l0 xs (by omega) xs.length 0 (by omega) (by omega)
/-- n of the numbers from place i on lie in 1 .. 5. -/
def dimsN (xs : List Int) : Nat → Int → Bool
  | 0, _ => true
  | n + 1, i => if 1 ≤ rd xs i ∧ rd xs i ≤ 5 then dimsN xs n (i + 1) else false
theorem spec_in (a b c : Int) : spec_l01In.f a b c = some (decide (b ≤ a ∧ a ≤ c)) := by
  unfold spec_l01In.f
  by_cases h : a ≥ b
  · rw [if_pos h]
    congr 1
    simp only [show b ≤ a from h, true_and]
  · rw [if_neg h, decide_eq_false (by omega)]
theorem impl_in (a b c : Int) : impl_inRange.f a b c = some (decide (b ≤ a ∧ a ≤ c)) := by
  unfold impl_inRange.f
  by_cases h : a ≥ b
  · rw [if_pos h]
    congr 1
    simp only [show b ≤ a from h, true_and]
  · rw [if_neg h, decide_eq_false (by omega)]
theorem spec_dims_l0 (xs : List Int) (hx : xs.length ≤ 140737488351232) (n : Nat) : ∀ (i : Int), 0 ≤ i → i + n = xs.length → Ev (fun k => spec_DimsOk.l0 k xs i) (dimsN xs n i) := by
  induction n with
  | zero =>
    intro i h0 hn
    refine Ev.step (fun k => spec_DimsOk.l0.eq_2 xs i k) ?_
    simp only [if_neg (show ¬ i < (xs.length : Int) by omega)]
    exact Ev.now _
  | succ n ih =>
    intro i h0 hn
    refine Ev.step (fun k => spec_DimsOk.l0.eq_2 xs i k) ?_
    simp only [if_pos (show i < (xs.length : Int) by omega), if_pos h0, spec_in, Option.bind_some, dimsN]
    by_cases h : 1 ≤ rd xs i ∧ rd xs i ≤ 5
    · simp only [decide_eq_true h, if_true, if_pos h]
      rw [w64 (by omega) (by omega)]
      exact ih (i + 1) (by omega) (by omega)
    · simp only [decide_eq_false h, Bool.false_eq_true, if_false, if_neg h]
      exact Ev.now _
def dimsR (xs : List Int) : Bool := decide (2 ≤ xs.length ∧ xs.length ≤ 8) && dimsN xs xs.length 0
theorem spec_dims (xs : List Int) (hx : xs.length ≤ 140737488351232) : Ev (fun k => spec_DimsOk.f k xs) (dimsR xs) := by
  unfold spec_DimsOk.f dimsR
  simp only [spec_in, Option.bind_some]
  by_cases h : 2 ≤ xs.length ∧ xs.length ≤ 8
  · simp only [decide_eq_true (show (2 : Int) ≤ (xs.length : Int) ∧ (xs.length : Int) ≤ 8 by omega), if_true, decide_eq_true h, Bool.true_and]
    exact spec_dims_l0 xs hx xs.length 0 (by omega) (by omega)
  · simp only [decide_eq_false (show ¬ ((2 : Int) ≤ (xs.length : Int) ∧ (xs.length : Int) ≤ 8) by omega), Bool.false_eq_true, if_false, decide_eq_false h, Bool.false_and]
    exact Ev.now _
theorem impl_dims_l0 (xs : List Int) (hx : xs.length ≤ 140737488351232) (n : Nat) : ∀ (i : Int), 0 ≤ i → i + n = xs.length →
    Ev (fun k => impl_DimsOk.l0 k xs xs (xs.length : Int) i) (decide (2 ≤ xs.length ∧ xs.length ≤ 8) && dimsN xs n i) := by
  induction n with
  | zero =>
    intro i h0 hn
    refine Ev.step (fun k => impl_DimsOk.l0.eq_2 xs xs (xs.length : Int) i k) ?_
    simp only [if_neg (show ¬ i < (xs.length : Int) by omega), impl_in, Option.bind_some, dimsN, Bool.and_true]
    rw [show decide (2 ≤ xs.length ∧ xs.length ≤ 8) = decide ((2 : Int) ≤ (xs.length : Int) ∧ (xs.length : Int) ≤ 8) from decide_eq_decide.2 (by omega)]
    exact Ev.now _
  | succ n ih =>
    intro i h0 hn
    refine Ev.step (fun k => impl_DimsOk.l0.eq_2 xs xs (xs.length : Int) i k) ?_
    unfold impl_isDim.f
    simp only [if_pos (show i < (xs.length : Int) by omega), if_pos h0, impl_in, Option.bind_some, dimsN]
    by_cases h : 1 ≤ rd xs i ∧ rd xs i ≤ 5
    · simp only [decide_eq_true h, if_true, if_pos h]
      rw [w64 (by omega) (by omega)]
      exact ih (i + 1) (by omega) (by omega)
    · simp only [decide_eq_false h, Bool.false_eq_true, if_false, if_neg h, Bool.and_false]
      exact Ev.now _
theorem impl_dims (xs : List Int) (hx : xs.length ≤ 140737488351232) : Ev (fun k => impl_DimsOk.f k xs) (dimsR xs) := by
  unfold impl_DimsOk.f dimsR
  exact impl_dims_l0 xs hx xs.length 0 (by omega) (by omega)
/-- The better of two, as both programs choose. -/
def choose (b : Int × Int) (n a : Int) : Int × Int := if b.1 < 0 then (n, a) else if n < b.1 then (n, a) else b
def costE (d : List Int) (E : Nat → Nat → Int × Int) (f c j : Nat) : Int := (E f (j + 1)).1 + (E (f + j + 1) (c - j - 1)).1 + rd d (f : Int) * rd d ((f + j + 1 : Nat) : Int) * rd d ((f + c : Nat) : Int)
def stepE (d : List Int) (E : Nat → Nat → Int × Int) (f c : Nat) (b : Int × Int) (j : Nat) : Int × Int := choose b (costE d E f c j) ((j + 1 : Nat) : Int)
def best (d : List Int) : Nat → Nat → Nat → Int × Int
  | 0, _, _ => (0, 0)
  | n + 1, f, c => if c ≤ 1 then (0, 0) else (List.range (c - 1)).foldl (stepE d (best d n) f c) (-1, 0)
theorem foldl_same {α β : Type} {f g : α → β → α} (l : List β) (h : ∀ a, ∀ b ∈ l, f a b = g a b) : ∀ a, l.foldl f a = l.foldl g a := by
  induction l with
  | nil => intro a; rfl
  | cons b l ih =>
    intro a
    rw [List.foldl_cons, List.foldl_cons, h a b List.mem_cons_self]
    exact ih (fun a' b' hb => h a' b' (List.mem_cons_of_mem _ hb)) _
theorem best_low (d : List Int) (n f c : Nat) (h : c ≤ 1) : best d n f c = (0, 0) := by
  cases n with
  | zero => rfl
  | succ n => rw [best, if_pos h]
theorem best_fuel (d : List Int) (n : Nat) : ∀ m f c, c ≤ n → c ≤ m → best d n f c = best d m f c := by
  induction n with
  | zero =>
    intro m f c h1 h2
    rw [best_low d 0 f c (by omega), best_low d m f c (by omega)]
  | succ n ih =>
    intro m f c h1 h2
    by_cases hc : c ≤ 1
    · rw [best_low d _ f c hc, best_low d _ f c hc]
    · cases m with
      | zero => omega
      | succ m =>
        rw [best, best, if_neg hc, if_neg hc]
        refine foldl_same _ (fun a j hj => ?_) _
        have hj' := List.mem_range.1 hj
        unfold stepE costE
        rw [ih m f (j + 1) (by omega) (by omega), ih m (f + j + 1) (c - j - 1) (by omega) (by omega)]
def E (d : List Int) (f c : Nat) : Int × Int := best d 8 f c
/-- What is chosen of the first m ways. -/
def Pre (d : List Int) (f c m : Nat) : Int × Int := (List.range m).foldl (stepE d (E d) f c) (-1, 0)
theorem pre_zero (d : List Int) (f c : Nat) : Pre d f c 0 = (-1, 0) := rfl
theorem pre_succ (d : List Int) (f c m : Nat) : Pre d f c (m + 1) = choose (Pre d f c m) (costE d (E d) f c m) ((m + 1 : Nat) : Int) := by
  unfold Pre
  rw [List.range_succ, List.foldl_append]
  rfl
theorem E_one (d : List Int) (f : Nat) : E d f 1 = (0, 0) := best_low d 8 f 1 (by omega)
theorem E_pre (d : List Int) (f c : Nat) (h2 : 2 ≤ c) (h8 : c ≤ 8) : E d f c = Pre d f c (c - 1) := by
  unfold E Pre
  rw [best, if_neg (by omega)]
  refine foldl_same _ (fun a j hj => ?_) _
  have hj' := List.mem_range.1 hj
  unfold stepE costE E
  rw [best_fuel d 7 8 f (j + 1) (by omega) (by omega), best_fuel d 7 8 (f + j + 1) (c - j - 1) (by omega) (by omega)]
/-- The sizes lie between 0 and 6. -/
def Low (d : List Int) : Prop := ∀ i : Int, 0 ≤ rd d i ∧ rd d i ≤ 6
theorem three {a b c : Int} (ha : 0 ≤ a ∧ a ≤ 6) (hb : 0 ≤ b ∧ b ≤ 6) (hc : 0 ≤ c ∧ c ≤ 6) : 0 ≤ a * b ∧ a * b ≤ 36 ∧ 0 ≤ a * b * c ∧ a * b * c ≤ 216 := by
  have h1 : 0 ≤ a * b := Int.mul_nonneg ha.1 hb.1
  have h2 : a * b ≤ 6 * 6 := Int.mul_le_mul ha.2 hb.2 hb.1 (by decide)
  have h3 : 0 ≤ a * b * c := Int.mul_nonneg h1 hc.1
  have h4 : a * b * c ≤ 36 * 6 := Int.mul_le_mul h2 hc.2 hc.1 (by decide)
  exact ⟨h1, h2, h3, h4⟩
theorem E_bound (d : List Int) (hd : Low d) (c : Nat) : 1 ≤ c → c ≤ 8 → ∀ f, 0 ≤ (E d f c).1 ∧ (E d f c).1 ≤ 216 * ((c : Int) - 1) := by
  induction c using Nat.strongRecOn with
  | ind c ih =>
    intro h1 h8 f
    by_cases hc : c = 1
    · subst hc
      rw [E_one]
      decide
    · rw [E_pre d f c (by omega) h8]
      have cost : ∀ j, j < c - 1 → 0 ≤ costE d (E d) f c j ∧ costE d (E d) f c j ≤ 216 * ((c : Int) - 1) := by
        intro j hj
        obtain ⟨a1, a2⟩ := ih (j + 1) (by omega) (by omega) (by omega) f
        obtain ⟨b1, b2⟩ := ih (c - j - 1) (by omega) (by omega) (by omega) (f + j + 1)
        obtain ⟨_, _, c1, c2⟩ := three (hd (f : Int)) (hd ((f + j + 1 : Nat) : Int)) (hd ((f + c : Nat) : Int))
        unfold costE
        omega
      have P : ∀ m, m < c - 1 → 0 ≤ (Pre d f c (m + 1)).1 ∧ (Pre d f c (m + 1)).1 ≤ 216 * ((c : Int) - 1) := by
        intro m
        induction m with
        | zero =>
          intro hm
          rw [pre_succ, pre_zero]
          exact cost 0 hm
        | succ m ihm =>
          intro hm
          have h3 := ihm (by omega)
          have h4 := cost (m + 1) hm
          rw [pre_succ]
          unfold choose
          split
          · exact h4
          · split
            · exact h4
            · exact h3
      have := P (c - 2) (by omega)
      rw [show c - 2 + 1 = c - 1 by omega] at this
      exact this
theorem pre_bound (d : List Int) (hd : Low d) (f c : Nat) (h8 : c ≤ 8) (m : Nat) : m < c - 1 → 0 ≤ (Pre d f c (m + 1)).1 := by
  have cost : ∀ j, j < c - 1 → 0 ≤ costE d (E d) f c j := by
    intro j hj
    obtain ⟨a1, a2⟩ := E_bound d hd (j + 1) (by omega) (by omega) f
    obtain ⟨b1, b2⟩ := E_bound d hd (c - j - 1) (by omega) (by omega) (f + j + 1)
    obtain ⟨_, _, c1, c2⟩ := three (hd (f : Int)) (hd ((f + j + 1 : Nat) : Int)) (hd ((f + c : Nat) : Int))
    unfold costE
    omega
  induction m with
  | zero =>
    intro hm
    rw [pre_succ, pre_zero]
    exact cost 0 hm
  | succ m ihm =>
    intro hm
    have h3 := ihm (by omega)
    have h4 := cost (m + 1) hm
    rw [pre_succ]
    unfold choose
    split
    · exact h4
    · split
      · exact h4
      · exact h3
theorem sums {x y p q r : Int} (hx : 0 ≤ x ∧ x ≤ 2000) (hy : 0 ≤ y ∧ y ≤ 2000) (hp : 0 ≤ p ∧ p ≤ 6) (hq : 0 ≤ q ∧ q ≤ 6) (hr : 0 ≤ r ∧ r ≤ 6) :
    wrap64 (wrap64 (x + y) + wrap64 (wrap64 (p * q) * r)) = x + y + p * q * r := by
  obtain ⟨h1, h2, h3, h4⟩ := three hp hq hr
  rw [w64 (n := p * q) (by omega) (by omega), w64 (n := p * q * r) (by omega) (by omega), w64 (n := x + y) (by omega) (by omega), w64 (by omega) (by omega)]
theorem dimsN_at (xs : List Int) (n : Nat) : ∀ i : Int, dimsN xs n i = true → ∀ j : Int, i ≤ j → j < i + n → 1 ≤ rd xs j ∧ rd xs j ≤ 5 := by
  induction n with
  | zero =>
    intro i _ j h1 h2
    omega
  | succ n ih =>
    intro i h j h1 h2
    unfold dimsN at h
    by_cases hc : 1 ≤ rd xs i ∧ rd xs i ≤ 5
    · rw [if_pos hc] at h
      by_cases hj : j = i
      · rw [hj]
        exact hc
      · exact ih (i + 1) h j (by omega) (by omega)
    · rw [if_neg hc] at h
      cases h
theorem low_of (xs : List Int) (h : dimsR xs = true) : Low xs := by
  unfold dimsR at h
  rw [Bool.and_eq_true] at h
  intro i
  by_cases hi : 0 ≤ i ∧ i < (xs.length : Int)
  · have := dimsN_at xs xs.length 0 h.2 i hi.1 (by omega)
    omega
  · by_cases hn : i < 0
    · have := dimsN_at xs xs.length 0 h.2 0 (by omega) (by have := of_decide_eq_true h.1; omega)
      unfold rd at this ⊢
      rw [show i.toNat = 0 by omega]
      simp only [Int.toNat_zero] at this
      omega
    · have : rd xs i = 0 := by
        unfold rd
        rw [List.getD_eq_getElem?_getD, List.getElem?_eq_none (by omega)]
        rfl
      omega
theorem dims_len (xs : List Int) (h : dimsR xs = true) : 2 ≤ xs.length ∧ xs.length ≤ 8 := by
  unfold dimsR at h
  rw [Bool.and_eq_true] at h
  exact of_decide_eq_true h.1
/-- What an order costs, and whether it is one. -/
def readAns (xs : List Int) (T : ByteArray) : Int × Bool := match PT T xs (T.size + 1) 0 0 with
  | none => (0, false)
  | some (a, x, c) => if a = T.size ∧ x = xs.length - 1 then (c, true) else (0, false)
def ans (xs : List Int) (T : ByteArray) : Int × Bool := if dimsR xs = true then readAns xs T else (0, false)
theorem read_none {xs : List Int} {T : ByteArray} (h : PT T xs (T.size + 1) 0 0 = none) : readAns xs T = (0, false) := by
  unfold readAns; rw [h]
theorem read_some {xs : List Int} {T : ByteArray} {a x : Nat} {c : Int} (h : PT T xs (T.size + 1) 0 0 = some (a, x, c)) : readAns xs T = if a = T.size ∧ x = xs.length - 1 then (c, true) else (0, false) := by
  unfold readAns; rw [h]
theorem ans_long (xs : List Int) (T : ByteArray) (l8 : xs.length ≤ 8) (h : 21 < T.size) : readAns xs T = (0, false) := by
  cases hp : PT T xs (T.size + 1) 0 0 with
  | none => exact read_none hp
  | some r =>
    obtain ⟨a, x, c⟩ := r
    rw [read_some hp, if_neg]
    rintro ⟨h1, h2⟩
    have := P_long hp
    have := P_on hp
    omega
theorem dims_each (xs : List Int) (h : dimsR xs = true) : ∀ i : Nat, i < xs.length → 1 ≤ rd xs (i : Int) ∧ rd xs (i : Int) ≤ 5 := by
  unfold dimsR at h
  simp only [Bool.and_eq_true] at h
  intro i hi
  exact dimsN_at xs xs.length 0 h.2 (i : Int) (by omega) (by omega)
theorem spec_cost (xs : List Int) (hx : xs.length ≤ 140737488351232) (T : ByteArray) : Ev (fun k => spec_CostOf.f k xs T) (ans xs T) := by
  unfold spec_CostOf.f ans
  refine Ev.bind (spec_dims xs hx) ?_
  by_cases h : dimsR xs = true
  case neg => simp only [if_neg h]; exact Ev.now _
  simp only [if_pos h]
  obtain ⟨l2, l8⟩ := dims_len xs h
  have hd := dims_each xs h
  have ew : wrap64 ((xs.length : Int) - 1) = ((xs.length - 1 : Nat) : Int) := by rw [w64 (by omega) (by omega)]; omega
  by_cases g : T.size ≤ 40
  case neg =>
    simp only [if_pos (show (T.size : Int) > 40 by omega)]
    rw [ans_long xs T l8 (by omega)]
    exact Ev.now _
  simp only [if_neg (show ¬ (T.size : Int) > 40 by omega)]
  rcases spec_tie T xs l2 l8 g hd (T.size + 1) 0 0 0 (by omega) (by omega) (by omega) (by omega) (by omega) _ (Nat.le_refl _) with ⟨hp, r1, r2, a', x', c', hf⟩ | ⟨a2, m2, c2, hp, hf⟩
  · refine Ev.bind (Ev.of (fun k => spec_l09Part.mono _ _ _ _ _ _ k) hf) ?_
    simp only [if_true]
    rw [read_none hp]
    exact Ev.now _
  · refine Ev.bind (Ev.of (fun k => spec_l09Part.mono _ _ _ _ _ _ k) hf) ?_
    simp only [ew]
    rw [if_neg (by simp)]
    by_cases g1 : a2 = T.size
    · rw [if_pos (by omega)]
      by_cases g2 : m2 = xs.length - 1
      · rw [if_pos (by omega), read_some hp, if_pos ⟨g1, g2⟩, Int.zero_add]
        exact Ev.now _
      · rw [if_neg (by omega), read_some hp, if_neg (fun h => g2 h.2)]
        exact Ev.now _
    · rw [if_neg (by omega), read_some hp, if_neg (fun h => g1 h.1)]
      exact Ev.now _
theorem impl_cost (xs : List Int) (hx : xs.length ≤ 140737488351232) (T : ByteArray) : Ev (fun k => impl_CostOf.f k xs T) (ans xs T) := by
  unfold impl_CostOf.f ans
  by_cases g : T.size ≤ 21
  case neg =>
    simp only [if_pos (show (T.size : Int) > 21 by omega)]
    by_cases h : dimsR xs = true
    · rw [if_pos h, ans_long xs T (dims_len xs h).2 (by omega)]
      exact Ev.now _
    · rw [if_neg h]
      exact Ev.now _
  simp only [if_neg (show ¬ (T.size : Int) > 21 by omega)]
  refine Ev.bind (impl_dims xs hx) ?_
  by_cases h : dimsR xs = true
  case neg => simp only [if_neg h]; exact Ev.now _
  simp only [if_pos h]
  obtain ⟨l2, l8⟩ := dims_len xs h
  have hd := dims_each xs h
  have ew : wrap64 ((xs.length : Int) - 1) = ((xs.length - 1 : Nat) : Int) := by rw [w64 (by omega) (by omega)]; omega
  rcases impl_tie T xs l2 l8 (by omega) hd (T.size + 1) 0 0 (by omega) (by omega) (by omega) _ (Nat.le_refl _) with ⟨hp, r1, a', x', hf⟩ | ⟨a2, m2, c2, hp, hf⟩
  · refine Ev.bind (Ev.of (fun k => impl_orderReader_part.mono _ _ _ _ _ k) hf) ?_
    simp only [if_true]
    rw [read_none hp]
    exact Ev.now _
  · refine Ev.bind (Ev.of (fun k => impl_orderReader_part.mono _ _ _ _ _ k) hf) ?_
    have on := P_on hp
    simp only [ew]
    rw [if_neg (by simp)]
    by_cases g1 : a2 = T.size
    · rw [if_neg (by omega)]
      by_cases g2 : m2 = xs.length - 1
      · rw [if_pos (by omega), read_some hp, if_pos ⟨g1, g2⟩]
        exact Ev.now _
      · rw [if_neg (by omega), read_some hp, if_neg (fun h => g2 h.2)]
        exact Ev.now _
    · rw [if_pos (by omega), read_some hp, if_neg (fun h => g1 h.1)]
      exact Ev.now _
end CostOf
theorem FnExactCostOf : laws_FnExactCostOf.Pure := by
  intro xs T _ hs _ _
  refine Ev.rounds ?_
  unfold laws_FnExactCostOf.f
  by_cases hb : (xs.length : Int) > 1048576
  · simp only [if_pos hb]
    exact Ev.now _
  · simp only [if_neg hb]
    by_cases hb2 : (T.size : Int) > 1048576
    · simp only [if_pos hb2]
      exact Ev.now _
    · simp only [if_neg hb2]
      refine Ev.bind (CostOf.toInt xs hs) ?_
      refine Ev.bind (CostOf.spec_cost xs (by omega) T) ?_
      refine Ev.bind (CostOf.toInt xs hs) ?_
      refine Ev.bind (CostOf.impl_cost xs (by omega) T) ?_
      simp only [if_true]
      refine Ev.step (fun k => laws_FnExactCostOf.j0.eq_2 _ _ _ k) ?_
      simp
      refine Ev.bind (CostOf.toInt xs hs) ?_
      refine Ev.bind (CostOf.eqInt xs hs) ?_
      simp only [if_true]
      exact Ev.now _
end Go.Proofs.Ytpcjbnglolfaaaa.Pure
