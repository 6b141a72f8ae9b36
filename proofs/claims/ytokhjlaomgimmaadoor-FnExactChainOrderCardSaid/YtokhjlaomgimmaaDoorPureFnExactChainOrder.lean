/- The program's ChainOrder and the reference's give one answer, for every list of numbers, and leave it as it was. -/
import Derived.Test.YtokhjlaomgimmaaDoorQFnExactChainOrderx3
import Derived.Test.YtokhjlaomgimmaaDoorDecLib
namespace Go.Proofs.YtokhjlaomgimmaaDoor.Pure
open Go.RowKit Go.Proofs.YtokhjlaomgimmaaDoor.PFnExactChainOrder Go.Proofs.YtokhjlaomgimmaaDoorW.PrintWords Go.Proofs.YtokhjlaomgimmaaDoorW.PrintLast Go.Proofs.YtokhjlaomgimmaaDoor.Lib
set_option linter.unusedSimpArgs false
set_option linter.unusedVariables false
namespace ChainOrder
theorem toInt_l0 (xs : List Int) (hx : xs.length ≤ 140737488351232) (n : Nat) : ∀ (i : Int) (ys : List Int), 0 ≤ i → i + n = xs.length → ys.length = xs.length → (∀ j, j < i.toNat → ys[j]? = xs[j]?) →
    Ev (fun k => laws_toIntS.l0 k xs ys i) xs := by
  induction n with
  | zero =>
    intro i ys h0 hn hl H
    refine Ev.step (fun k => laws_toIntS.l0.eq_2 xs ys i k) ?_
    simp only [if_neg (show ¬ i < (xs.length : Int) by omega)]
    have e : ys = xs := by
      apply List.ext_getElem?
      intro j
      by_cases hj : j < i.toNat
      · exact H j hj
      · rw [List.getElem?_eq_none (by omega), List.getElem?_eq_none (by omega)]
    rw [e]
    exact Ev.now _
  | succ n ih =>
    intro i ys h0 hn hl H
    refine Ev.step (fun k => laws_toIntS.l0.eq_2 xs ys i k) ?_
    simp only [if_pos (show i < (xs.length : Int) by omega), if_pos h0, if_pos (show i < (ys.length : Int) by omega)]
    rw [w64 (by omega) (by omega)]
    refine ih (i + 1) _ (by omega) (by omega) (by rw [List.length_set]; exact hl) (fun j hj => ?_)
    rw [List.getElem?_set]
    by_cases e : i.toNat = j
    · subst e
      rw [if_pos rfl, if_pos (by omega)]
      unfold rd
      rw [List.getD_eq_getElem?_getD, List.getElem?_eq_getElem (by omega)]
      rfl
    · rw [if_neg e]
      exact H j (by omega)
theorem toInt (xs : List Int) (hx : xs.length * 8 ≤ 140737488351232) : Ev (fun k => laws_toIntS.f k xs) xs := by
  unfold laws_toIntS.f
  simp only [if_pos (show (0 : Int) ≤ (xs.length : Int) by omega), Int.toNat_natCast, if_pos (show xs.length ≤ 35184372088832 by omega)]
  exact toInt_l0 xs (by omega) xs.length 0 _ (by omega) (by omega) (by rw [List.length_replicate]) (fun j hj => by omega)
theorem eqInt_l0 (xs : List Int) (hx : xs.length ≤ 140737488351232) (n : Nat) : ∀ (i : Int), 0 ≤ i → i + n = xs.length → Ev (fun k => laws_eqIntS.l0 k xs xs i) true := by
  induction n with
  | zero =>
    intro i h0 hn
    refine Ev.step (fun k => laws_eqIntS.l0.eq_2 xs xs i k) ?_
    simp only [if_neg (show ¬ i < (xs.length : Int) by omega)]
    exact Ev.now _
  | succ n ih =>
    intro i h0 hn
    refine Ev.step (fun k => laws_eqIntS.l0.eq_2 xs xs i k) ?_
    simp only [if_pos (show i < (xs.length : Int) by omega), if_pos h0, if_true]
    rw [w64 (by omega) (by omega)]
    exact ih (i + 1) (by omega) (by omega)
theorem eqInt (xs : List Int) (hx : xs.length * 8 ≤ 140737488351232) : Ev (fun k => laws_eqIntS.f k xs xs) true := by
  unfold laws_eqIntS.f
  simp only [if_true]
  exact eqInt_l0 xs (by omega) xs.length 0 (by omega) (by omega)
/-- n of the numbers from place i on lie in 1 .. 5. -/
def dimsN (xs : List Int) : Nat → Int → Bool
  | 0, _ => true
  | n + 1, i => if 1 ≤ rd xs i ∧ rd xs i ≤ 5 then dimsN xs n (i + 1) else false
theorem spec_in (a b c : Int) : spec_l01In.f a b c = some (decide (b ≤ a ∧ a ≤ c)) := by
  unfold spec_l01In.f
  by_cases h : a ≥ b
  · rw [if_pos h]
    congr 1
    simp only [show b ≤ a from h, true_and]
  · rw [if_neg h, decide_eq_false (by omega)]
theorem impl_in (a b c : Int) : impl_inRange.f a b c = some (decide (b ≤ a ∧ a ≤ c)) := by
  unfold impl_inRange.f
  by_cases h : a ≥ b
  · rw [if_pos h]
    congr 1
    simp only [show b ≤ a from h, true_and]
  · rw [if_neg h, decide_eq_false (by omega)]
theorem spec_dims_l0 (xs : List Int) (hx : xs.length ≤ 140737488351232) (n : Nat) : ∀ (i : Int), 0 ≤ i → i + n = xs.length → Ev (fun k => spec_DimsOk.l0 k xs i) (dimsN xs n i) := by
  induction n with
  | zero =>
    intro i h0 hn
    refine Ev.step (fun k => spec_DimsOk.l0.eq_2 xs i k) ?_
    simp only [if_neg (show ¬ i < (xs.length : Int) by omega)]
    exact Ev.now _
  | succ n ih =>
    intro i h0 hn
    refine Ev.step (fun k => spec_DimsOk.l0.eq_2 xs i k) ?_
    simp only [if_pos (show i < (xs.length : Int) by omega), if_pos h0, spec_in, Option.bind_some, dimsN]
    by_cases h : 1 ≤ rd xs i ∧ rd xs i ≤ 5
    · simp only [decide_eq_true h, if_true, if_pos h]
      rw [w64 (by omega) (by omega)]
      exact ih (i + 1) (by omega) (by omega)
    · simp only [decide_eq_false h, Bool.false_eq_true, if_false, if_neg h]
      exact Ev.now _
def dimsR (xs : List Int) : Bool := decide (2 ≤ xs.length ∧ xs.length ≤ 8) && dimsN xs xs.length 0
theorem spec_dims (xs : List Int) (hx : xs.length ≤ 140737488351232) : Ev (fun k => spec_DimsOk.f k xs) (dimsR xs) := by
  unfold spec_DimsOk.f dimsR
  simp only [spec_in, Option.bind_some]
  by_cases h : 2 ≤ xs.length ∧ xs.length ≤ 8
  · simp only [decide_eq_true (show (2 : Int) ≤ (xs.length : Int) ∧ (xs.length : Int) ≤ 8 by omega), if_true, decide_eq_true h, Bool.true_and]
    exact spec_dims_l0 xs hx xs.length 0 (by omega) (by omega)
  · simp only [decide_eq_false (show ¬ ((2 : Int) ≤ (xs.length : Int) ∧ (xs.length : Int) ≤ 8) by omega), Bool.false_eq_true, if_false, decide_eq_false h, Bool.false_and]
    exact Ev.now _
theorem impl_dims_l0 (xs : List Int) (hx : xs.length ≤ 140737488351232) (n : Nat) : ∀ (i : Int), 0 ≤ i → i + n = xs.length →
    Ev (fun k => impl_DimsOk.l0 k xs xs (xs.length : Int) i) (decide (2 ≤ xs.length ∧ xs.length ≤ 8) && dimsN xs n i) := by
  induction n with
  | zero =>
    intro i h0 hn
    refine Ev.step (fun k => impl_DimsOk.l0.eq_2 xs xs (xs.length : Int) i k) ?_
    simp only [if_neg (show ¬ i < (xs.length : Int) by omega), impl_in, Option.bind_some, dimsN, Bool.and_true]
    rw [show decide (2 ≤ xs.length ∧ xs.length ≤ 8) = decide ((2 : Int) ≤ (xs.length : Int) ∧ (xs.length : Int) ≤ 8) from decide_eq_decide.2 (by omega)]
    exact Ev.now _
  | succ n ih =>
    intro i h0 hn
    refine Ev.step (fun k => impl_DimsOk.l0.eq_2 xs xs (xs.length : Int) i k) ?_
    unfold impl_isDim.f
    simp only [if_pos (show i < (xs.length : Int) by omega), if_pos h0, impl_in, Option.bind_some, dimsN]
    by_cases h : 1 ≤ rd xs i ∧ rd xs i ≤ 5
    · simp only [decide_eq_true h, if_true, if_pos h]
      rw [w64 (by omega) (by omega)]
      exact ih (i + 1) (by omega) (by omega)
    · simp only [decide_eq_false h, Bool.false_eq_true, if_false, if_neg h, Bool.and_false]
      exact Ev.now _
theorem impl_dims (xs : List Int) (hx : xs.length ≤ 140737488351232) : Ev (fun k => impl_DimsOk.f k xs) (dimsR xs) := by
  unfold impl_DimsOk.f dimsR
  exact impl_dims_l0 xs hx xs.length 0 (by omega) (by omega)
theorem fig_spec (x : Nat) (h : x < 10) : spec_l01Figure.f (x : Int) = some (48 + (x : Int)) := by
  unfold spec_l01Figure.f
  rw [if_pos (by omega), w64 (by omega) (by omega)]
  congr 1
  omega
/-- The two signs. -/
def signed (neg : Bool) (m : Nat) : Int := if neg = true then -(m : Int) else (m : Int)
theorem dec_l0 (neg : Bool) (d : Nat) : ∀ (m : Nat) (l : List UInt8), m < 10 ^ d → m ≤ 9223372036854775808 → (neg = false → m ≤ 9223372036854775807) → l.length + d ≤ 1000 →
    Ev (fun k => spec_Decimal.l0 k (signed neg m) neg ⟨l.toArray⟩) ⟨((if neg = true then [45] else []) ++ digs m ++ l).toArray⟩ := by
  have base : ∀ l : List UInt8, l.length ≤ 1000 → Ev (fun k => spec_Decimal.l0 k (signed neg 0) neg ⟨l.toArray⟩) ⟨((if neg = true then [45] else []) ++ digs 0 ++ l).toArray⟩ := by
    intro l hl
    refine Ev.step (fun k => spec_Decimal.l0.eq_2 (signed neg 0) neg ⟨l.toArray⟩ k) ?_
    have e : signed neg 0 = 0 := by
      unfold signed
      cases neg <;> rfl
    have hz : 1 + (⟨l.toArray⟩ : ByteArray).size ≤ 9223372036854775807 := by
      rw [size_mk]
      omega
    simp only [e, if_true, if_pos hz]
    cases neg
    · simp only [Bool.false_eq_true, if_false, digs, if_true, List.nil_append]
      exact Ev.now _
    · simp only [if_true, digs]
      rw [show ((⟨#[45]⟩ : ByteArray) ++ ⟨l.toArray⟩) = ⟨([45] ++ [] ++ l).toArray⟩ by
        rw [append_mk]
        rw [ByteArray.toList_eq]
        rfl]
      exact Ev.now _
  induction d with
  | zero =>
    intro m l hm _ _ hl
    obtain rfl : m = 0 := by simpa using hm
    exact base l (by omega)
  | succ d ih =>
    intro m l hm h63 hpos hl
    by_cases h0 : m = 0
    · subst h0
      exact base l (by omega)
    · refine Ev.step (fun k => spec_Decimal.l0.eq_2 (signed neg m) neg ⟨l.toArray⟩ k) ?_
      have hne : signed neg m ≠ 0 := by
        unfold signed
        split <;> omega
      have hq : m / 10 < 10 ^ d := by
        rw [Nat.div_lt_iff_lt_mul (by decide)]
        rw [Nat.pow_succ] at hm
        exact hm
      have hdv : wrap64 (Int.tdiv (signed neg m) 10) = signed neg (m / 10) := by
        unfold signed
        cases neg
        · simp only [Bool.false_eq_true, if_false]
          rw [Int.tdiv_eq_ediv_of_nonneg (by omega)]
          have := hpos rfl
          unfold wrap64
          omega
        · simp only [if_true]
          rw [Int.neg_tdiv, Int.tdiv_eq_ediv_of_nonneg (by omega)]
          unfold wrap64
          omega
      have hz : (strOfNums [(48 : Int) + ((m % 10 : Nat) : Int)]).size + (⟨l.toArray⟩ : ByteArray).size ≤ 9223372036854775807 := by
        rw [strOfNums_size, size_mk]
        simp only [List.length_cons, List.length_nil]
        omega
      have hap : strOfNums [(48 : Int) + ((m % 10 : Nat) : Int)] ++ (⟨l.toArray⟩ : ByteArray) = ⟨((UInt8.ofNat (48 + m % 10)) :: l).toArray⟩ := by
        rw [append_mk, strOfNums_toList]
        congr 2
      have IH := ih (m / 10) (UInt8.ofNat (48 + m % 10) :: l) hq (by omega) (fun h => by have := hpos h; omega) (by simp only [List.length_cons]; omega)
      have hres : ((if neg = true then [45] else []) ++ digs (m / 10) ++ UInt8.ofNat (48 + m % 10) :: l) = ((if neg = true then [45] else []) ++ digs m ++ l) := by
        rw [digs_step h0]
        simp only [List.append_assoc, List.cons_append, List.nil_append]
      rw [hres] at IH
      simp only [if_neg hne, hdv]
      by_cases hn : Int.tmod (signed neg m) 10 < 0
      · have ht : wrap64 (-(Int.tmod (signed neg m) 10)) = ((m % 10 : Nat) : Int) := by
          unfold signed at hn ⊢
          cases neg
          · simp only [Bool.false_eq_true, if_false] at hn
            rw [Int.tmod_eq_emod_of_nonneg (by omega)] at hn
            omega
          · simp only [if_true]
            rw [Int.neg_tmod, Int.tmod_eq_emod_of_nonneg (by omega)]
            unfold wrap64
            omega
        simp only [if_pos hn, ht, fig_spec _ (show m % 10 < 10 by omega), Option.bind_some, if_pos hz, hap]
        exact IH
      · have ht : Int.tmod (signed neg m) 10 = ((m % 10 : Nat) : Int) := by
          unfold signed at hn ⊢
          cases neg
          · simp only [Bool.false_eq_true, if_false]
            rw [Int.tmod_eq_emod_of_nonneg (by omega)]
            omega
          · simp only [if_true] at hn ⊢
            rw [Int.neg_tmod, Int.tmod_eq_emod_of_nonneg (by omega)] at hn ⊢
            omega
        simp only [if_neg hn, ht, fig_spec _ (show m % 10 < 10 by omega), Option.bind_some, if_pos hz, hap]
        exact IH
theorem spec_dec (n : Int) (h0 : -9223372036854775808 ≤ n) (h1 : n ≤ 9223372036854775807) : Ev (fun k => spec_Decimal.f k n) ⟨(Lib.itoa n).toArray⟩ := by
  have e0 : (⟨#[]⟩ : ByteArray) = ⟨([] : List UInt8).toArray⟩ := rfl
  unfold spec_Decimal.f
  by_cases hz : n = 0
  · subst hz
    simp only [if_true, itoa_zero]
    exact Ev.now _
  · simp only [if_neg hz]
    by_cases hn : n < 0
    · obtain ⟨m, rfl⟩ : ∃ m : Nat, n = -(m : Int) := ⟨n.natAbs, by omega⟩
      have := dec_l0 true 19 m [] (by omega) (by omega) (fun h => by cases h) (by decide)
      rw [itoa_neg m (by omega)]
      simpa only [signed, if_true, decide_eq_true hn, e0, List.append_nil, List.cons_append, List.nil_append] using this
    · obtain ⟨m, rfl⟩ := Int.eq_ofNat_of_zero_le (show 0 ≤ n by omega)
      have := dec_l0 false 19 m [] (by omega) (by omega) (fun _ => by omega) (by decide)
      rw [itoa_pos m (by omega)]
      simpa only [signed, Bool.false_eq_true, if_false, decide_eq_false hn, e0, List.append_nil, List.nil_append] using this
/-- The better of two, as both programs choose. -/
def choose (b : Int × Int) (n a : Int) : Int × Int := if b.1 < 0 then (n, a) else if n < b.1 then (n, a) else b
def costE (d : List Int) (E : Nat → Nat → Int × Int) (f c j : Nat) : Int := (E f (j + 1)).1 + (E (f + j + 1) (c - j - 1)).1 + rd d (f : Int) * rd d ((f + j + 1 : Nat) : Int) * rd d ((f + c : Nat) : Int)
def stepE (d : List Int) (E : Nat → Nat → Int × Int) (f c : Nat) (b : Int × Int) (j : Nat) : Int × Int := choose b (costE d E f c j) ((j + 1 : Nat) : Int)
def best (d : List Int) : Nat → Nat → Nat → Int × Int
  | 0, _, _ => (0, 0)
  | n + 1, f, c => if c ≤ 1 then (0, 0) else (List.range (c - 1)).foldl (stepE d (best d n) f c) (-1, 0)
theorem foldl_same {α β : Type} {f g : α → β → α} (l : List β) (h : ∀ a, ∀ b ∈ l, f a b = g a b) : ∀ a, l.foldl f a = l.foldl g a := by
  induction l with
  | nil => intro a; rfl
  | cons b l ih =>
    intro a
    rw [List.foldl_cons, List.foldl_cons, h a b List.mem_cons_self]
    exact ih (fun a' b' hb => h a' b' (List.mem_cons_of_mem _ hb)) _
theorem best_low (d : List Int) (n f c : Nat) (h : c ≤ 1) : best d n f c = (0, 0) := by
  cases n with
  | zero => rfl
  | succ n => rw [best, if_pos h]
theorem best_fuel (d : List Int) (n : Nat) : ∀ m f c, c ≤ n → c ≤ m → best d n f c = best d m f c := by
  induction n with
  | zero =>
    intro m f c h1 h2
    rw [best_low d 0 f c (by omega), best_low d m f c (by omega)]
  | succ n ih =>
    intro m f c h1 h2
    by_cases hc : c ≤ 1
    · rw [best_low d _ f c hc, best_low d _ f c hc]
    · cases m with
      | zero => omega
      | succ m =>
        rw [best, best, if_neg hc, if_neg hc]
        refine foldl_same _ (fun a j hj => ?_) _
        have hj' := List.mem_range.1 hj
        unfold stepE costE
        rw [ih m f (j + 1) (by omega) (by omega), ih m (f + j + 1) (c - j - 1) (by omega) (by omega)]
def E (d : List Int) (f c : Nat) : Int × Int := best d 8 f c
/-- What is chosen of the first m ways. -/
def Pre (d : List Int) (f c m : Nat) : Int × Int := (List.range m).foldl (stepE d (E d) f c) (-1, 0)
theorem pre_zero (d : List Int) (f c : Nat) : Pre d f c 0 = (-1, 0) := rfl
theorem pre_succ (d : List Int) (f c m : Nat) : Pre d f c (m + 1) = choose (Pre d f c m) (costE d (E d) f c m) ((m + 1 : Nat) : Int) := by
  unfold Pre
  rw [List.range_succ, List.foldl_append]
  rfl
theorem E_one (d : List Int) (f : Nat) : E d f 1 = (0, 0) := best_low d 8 f 1 (by omega)
theorem E_pre (d : List Int) (f c : Nat) (h2 : 2 ≤ c) (h8 : c ≤ 8) : E d f c = Pre d f c (c - 1) := by
  unfold E Pre
  rw [best, if_neg (by omega)]
  refine foldl_same _ (fun a j hj => ?_) _
  have hj' := List.mem_range.1 hj
  unfold stepE costE E
  rw [best_fuel d 7 8 f (j + 1) (by omega) (by omega), best_fuel d 7 8 (f + j + 1) (c - j - 1) (by omega) (by omega)]
/-- The sizes lie between 0 and 6. -/
def Low (d : List Int) : Prop := ∀ i : Int, 0 ≤ rd d i ∧ rd d i ≤ 6
theorem three {a b c : Int} (ha : 0 ≤ a ∧ a ≤ 6) (hb : 0 ≤ b ∧ b ≤ 6) (hc : 0 ≤ c ∧ c ≤ 6) : 0 ≤ a * b ∧ a * b ≤ 36 ∧ 0 ≤ a * b * c ∧ a * b * c ≤ 216 := by
  have h1 : 0 ≤ a * b := Int.mul_nonneg ha.1 hb.1
  have h2 : a * b ≤ 6 * 6 := Int.mul_le_mul ha.2 hb.2 hb.1 (by decide)
  have h3 : 0 ≤ a * b * c := Int.mul_nonneg h1 hc.1
  have h4 : a * b * c ≤ 36 * 6 := Int.mul_le_mul h2 hc.2 hc.1 (by decide)
  exact ⟨h1, h2, h3, h4⟩
theorem E_bound (d : List Int) (hd : Low d) (c : Nat) : 1 ≤ c → c ≤ 8 → ∀ f, 0 ≤ (E d f c).1 ∧ (E d f c).1 ≤ 216 * ((c : Int) - 1) := by
  induction c using Nat.strongRecOn with
  | ind c ih =>
    intro h1 h8 f
    by_cases hc : c = 1
    · subst hc
      rw [E_one]
      decide
    · rw [E_pre d f c (by omega) h8]
      have cost : ∀ j, j < c - 1 → 0 ≤ costE d (E d) f c j ∧ costE d (E d) f c j ≤ 216 * ((c : Int) - 1) := by
        intro j hj
        obtain ⟨a1, a2⟩ := ih (j + 1) (by omega) (by omega) (by omega) f
        obtain ⟨b1, b2⟩ := ih (c - j - 1) (by omega) (by omega) (by omega) (f + j + 1)
        obtain ⟨_, _, c1, c2⟩ := three (hd (f : Int)) (hd ((f + j + 1 : Nat) : Int)) (hd ((f + c : Nat) : Int))
        unfold costE
        omega
      have P : ∀ m, m < c - 1 → 0 ≤ (Pre d f c (m + 1)).1 ∧ (Pre d f c (m + 1)).1 ≤ 216 * ((c : Int) - 1) := by
        intro m
        induction m with
        | zero =>
          intro hm
          rw [pre_succ, pre_zero]
          exact cost 0 hm
        | succ m ihm =>
          intro hm
          have h3 := ihm (by omega)
          have h4 := cost (m + 1) hm
          rw [pre_succ]
          unfold choose
          split
          · exact h4
          · split
            · exact h4
            · exact h3
      have := P (c - 2) (by omega)
      rw [show c - 2 + 1 = c - 1 by omega] at this
      exact this
theorem pre_bound (d : List Int) (hd : Low d) (f c : Nat) (h8 : c ≤ 8) (m : Nat) : m < c - 1 → 0 ≤ (Pre d f c (m + 1)).1 := by
  have cost : ∀ j, j < c - 1 → 0 ≤ costE d (E d) f c j := by
    intro j hj
    obtain ⟨a1, a2⟩ := E_bound d hd (j + 1) (by omega) (by omega) f
    obtain ⟨b1, b2⟩ := E_bound d hd (c - j - 1) (by omega) (by omega) (f + j + 1)
    obtain ⟨_, _, c1, c2⟩ := three (hd (f : Int)) (hd ((f + j + 1 : Nat) : Int)) (hd ((f + c : Nat) : Int))
    unfold costE
    omega
  induction m with
  | zero =>
    intro hm
    rw [pre_succ, pre_zero]
    exact cost 0 hm
  | succ m ihm =>
    intro hm
    have h3 := ihm (by omega)
    have h4 := cost (m + 1) hm
    rw [pre_succ]
    unfold choose
    split
    · exact h4
    · split
      · exact h4
      · exact h3
theorem sums {x y p q r : Int} (hx : 0 ≤ x ∧ x ≤ 2000) (hy : 0 ≤ y ∧ y ≤ 2000) (hp : 0 ≤ p ∧ p ≤ 6) (hq : 0 ≤ q ∧ q ≤ 6) (hr : 0 ≤ r ∧ r ≤ 6) :
    wrap64 (wrap64 (x + y) + wrap64 (wrap64 (p * q) * r)) = x + y + p * q * r := by
  obtain ⟨h1, h2, h3, h4⟩ := three hp hq hr
  rw [w64 (n := p * q) (by omega) (by omega), w64 (n := p * q * r) (by omega) (by omega), w64 (n := x + y) (by omega) (by omega), w64 (by omega) (by omega)]
theorem dimsN_at (xs : List Int) (n : Nat) : ∀ i : Int, dimsN xs n i = true → ∀ j : Int, i ≤ j → j < i + n → 1 ≤ rd xs j ∧ rd xs j ≤ 5 := by
  induction n with
  | zero =>
    intro i _ j h1 h2
    omega
  | succ n ih =>
    intro i h j h1 h2
    unfold dimsN at h
    by_cases hc : 1 ≤ rd xs i ∧ rd xs i ≤ 5
    · rw [if_pos hc] at h
      by_cases hj : j = i
      · rw [hj]
        exact hc
      · exact ih (i + 1) h j (by omega) (by omega)
    · rw [if_neg hc] at h
      cases h
theorem low_of (xs : List Int) (h : dimsR xs = true) : Low xs := by
  unfold dimsR at h
  rw [Bool.and_eq_true] at h
  intro i
  by_cases hi : 0 ≤ i ∧ i < (xs.length : Int)
  · have := dimsN_at xs xs.length 0 h.2 i hi.1 (by omega)
    omega
  · by_cases hn : i < 0
    · have := dimsN_at xs xs.length 0 h.2 0 (by omega) (by have := of_decide_eq_true h.1; omega)
      unfold rd at this ⊢
      rw [show i.toNat = 0 by omega]
      simp only [Int.toNat_zero] at this
      omega
    · have : rd xs i = 0 := by
        unfold rd
        rw [List.getD_eq_getElem?_getD, List.getElem?_eq_none (by omega)]
        rfl
      omega
theorem dims_len (xs : List Int) (h : dimsR xs = true) : 2 ≤ xs.length ∧ xs.length ≤ 8 := by
  unfold dimsR at h
  rw [Bool.and_eq_true] at h
  exact of_decide_eq_true h.1
theorem spec_best (d : List Int) (hd : Low d) (hl : d.length ≤ 8) (c : Nat) : 1 ≤ c → ∀ f, f + c < d.length → Ev (fun k => spec_l09Best.f k d (f : Int) ((f + c : Nat) : Int)) (E d f c) := by
  induction c using Nat.strongRecOn with
  | ind c ih =>
    intro h1 f hf
    have e0 : wrap64 (((f + c : Nat) : Int) - (f : Int)) = (c : Int) := by
      rw [w64 (by omega) (by omega)]
      omega
    refine Ev.step (fun k => spec_l09Best.f.eq_2 d (f : Int) ((f + c : Nat) : Int) k) ?_
    simp only [e0]
    by_cases hc : c = 1
    · subst hc
      simp only [if_pos (show ((1 : Nat) : Int) = 1 from rfl), E_one]
      exact Ev.now _
    · have e1 : wrap64 ((f : Int) + 1) = ((f + 0 + 1 : Nat) : Int) := by
        rw [w64 (by omega) (by omega)]
        omega
      simp only [if_neg (show ¬ (c : Int) = 1 by omega), e1]
      have L : ∀ n m, m + n = c - 1 → Ev (fun k => spec_l09Best.l0 k d (f : Int) ((f + c : Nat) : Int) (Pre d f c m).1 (Pre d f c m).2 ((f + m + 1 : Nat) : Int)) (E d f c) := by
        intro n
        induction n with
        | zero =>
          intro m hm
          refine Ev.step (fun k => spec_l09Best.l0.eq_2 d _ _ _ _ _ k) ?_
          simp only [if_neg (show ¬ ((f + m + 1 : Nat) : Int) < ((f + c : Nat) : Int) by omega)]
          rw [E_pre d f c (by omega) (by omega), show c - 1 = m by omega]
          exact Ev.now _
        | succ n ihn =>
          intro m hm
          have e2 : wrap64 (((f + m + 1 : Nat) : Int) - (f : Int)) = ((m + 1 : Nat) : Int) := by
            rw [w64 (by omega) (by omega)]
            omega
          have e3 : wrap64 (((f + m + 1 : Nat) : Int) + 1) = ((f + (m + 1) + 1 : Nat) : Int) := by
            rw [w64 (by omega) (by omega)]
            omega
          have g1 : ((f + m + 1 : Nat) : Int) < ((f + c : Nat) : Int) := by omega
          have g2 : (0 : Int) ≤ (f : Int) := by omega
          have g3 : (f : Int) < (d.length : Int) := by omega
          have g4 : (0 : Int) ≤ ((f + m + 1 : Nat) : Int) := by omega
          have g5 : ((f + m + 1 : Nat) : Int) < (d.length : Int) := by omega
          have g6 : (0 : Int) ≤ ((f + c : Nat) : Int) := by omega
          have g7 : ((f + c : Nat) : Int) < (d.length : Int) := by omega
          have hnx : m + 1 + n = c - 1 := by omega
          have i1 := ih (m + 1) (by omega) (by omega) f (by omega)
          have i2 := ih (c - m - 1) (by omega) (by omega) (f + m + 1) (by omega)
          rw [show f + (m + 1) = f + m + 1 by omega] at i1
          rw [show f + m + 1 + (c - m - 1) = f + c by omega] at i2
          have nx := ihn (m + 1) hnx
          have b1 := E_bound d hd (m + 1) (by omega) (by omega) f
          have b2 := E_bound d hd (c - m - 1) (by omega) (by omega) (f + m + 1)
          have x1 : 0 ≤ (E d f (m + 1)).1 ∧ (E d f (m + 1)).1 ≤ 2000 := ⟨b1.1, by omega⟩
          have x2 : 0 ≤ (E d (f + m + 1) (c - m - 1)).1 ∧ (E d (f + m + 1) (c - m - 1)).1 ≤ 2000 := ⟨b2.1, by omega⟩
          have sm := sums (x := (E d f (m + 1)).1) (y := (E d (f + m + 1) (c - m - 1)).1) x1 x2 (hd (f : Int)) (hd ((f + m + 1 : Nat) : Int)) (hd ((f + c : Nat) : Int))
          rw [pre_succ] at nx
          refine Ev.step (fun k => spec_l09Best.l0.eq_2 d _ _ _ _ _ k) ?_
          simp only [if_pos g1]
          refine Ev.bind i1 ?_
          refine Ev.bind i2 ?_
          simp only [if_pos g2, if_pos g3, if_pos g4, if_pos g5, if_pos g6, if_pos g7, sm, e2, e3]
          have ce : costE d (E d) f c m = (E d f (m + 1)).1 + (E d (f + m + 1) (c - m - 1)).1 + rd d (f : Int) * rd d ((f + m + 1 : Nat) : Int) * rd d ((f + c : Nat) : Int) := rfl
          rw [← ce]
          unfold choose at nx
          by_cases k1 : (Pre d f c m).1 < 0
          · simp only [if_pos k1] at nx ⊢
            exact nx
          · by_cases k2 : costE d (E d) f c m < (Pre d f c m).1
            · simp only [if_neg k1, if_pos k2] at nx ⊢
              exact nx
            · simp only [if_neg k1, if_neg k2] at nx ⊢
              exact nx
      exact L (c - 1) 0 (by omega)
/-- An entry of the table. -/
def Ent (t : List Int) (f c : Nat) : Int × Int := (rd t (16 * (f : Int) + 2 * (c : Int)), rd t (16 * (f : Int) + 2 * (c : Int) + 1))
theorem rd_set (t : List Int) (i j : Nat) (x : Int) (hj : j < t.length) : rd (t.set i x) (j : Int) = if i = j then x else rd t (j : Int) := by
  unfold rd
  rw [Int.toNat_natCast, List.getD_eq_getElem?_getD, List.getD_eq_getElem?_getD, List.getElem?_set]
  by_cases h : i = j
  · subst h
    rw [if_pos rfl, if_pos hj, if_pos rfl]
    rfl
  · rw [if_neg h, if_neg h]
theorem put_rd (d t : List Int) (C F a : Nat) (ht : t.length = 112) (j : Nat) (hj : j < 112) :
    rd (putAt d t (C : Int) (F : Int) (a : Int)) (j : Int) = if 16 * F + 2 * C + 1 = j then (a : Int) else if 16 * F + 2 * C = j then costAt d t (C : Int) (F : Int) (a : Int) else rd t (j : Int) := by
  unfold putAt
  rw [show (16 * (F : Int) + 2 * (C : Int) + 1).toNat = 16 * F + 2 * C + 1 by omega, show (16 * (F : Int) + 2 * (C : Int)).toNat = 16 * F + 2 * C by omega]
  rw [rd_set _ _ _ _ (by rw [List.length_set]; omega), rd_set _ _ _ _ (by omega)]
theorem ent_nat (t : List Int) (f c : Nat) : Ent t f c = (rd t ((16 * f + 2 * c : Nat) : Int), rd t ((16 * f + 2 * c + 1 : Nat) : Int)) := by
  unfold Ent
  rw [show (16 * (f : Int) + 2 * (c : Int)) = ((16 * f + 2 * c : Nat) : Int) by omega, show (((16 * f + 2 * c : Nat) : Int) + 1) = ((16 * f + 2 * c + 1 : Nat) : Int) by omega]
theorem put_same (d t : List Int) (C F a : Nat) (ht : t.length = 112) (hC : 1 ≤ C) (h : F + C ≤ 7) : Ent (putAt d t (C : Int) (F : Int) (a : Int)) F C = (costAt d t (C : Int) (F : Int) (a : Int), (a : Int)) := by
  rw [ent_nat, put_rd d t C F a ht _ (by omega), put_rd d t C F a ht _ (by omega), if_neg (by omega), if_pos rfl, if_pos rfl]
theorem put_other (d t : List Int) (C F a f c : Nat) (ht : t.length = 112) (hC : 1 ≤ C) (hc : 1 ≤ c) (h : F + C ≤ 7) (h' : f + c ≤ 7) (hne : ¬ (f = F ∧ c = C)) : Ent (putAt d t (C : Int) (F : Int) (a : Int)) f c = Ent t f c := by
  rw [ent_nat, ent_nat, put_rd d t C F a ht _ (by omega), put_rd d t C F a ht _ (by omega), if_neg (by omega), if_neg (by omega), if_neg (by omega), if_neg (by omega)]
/-- The table is right up to the part F of C matrices. -/
def Right (d t : List Int) (n C F : Nat) : Prop := t.length = 112 ∧ ∀ f c, 1 ≤ c → f + c ≤ n → (c < C ∨ (c = C ∧ f < F)) → Ent t f c = E d f c
theorem put_right (d t : List Int) (n C F a : Nat) (hn : n ≤ 7) (hC : 1 ≤ C) (h : F + C ≤ n) (H : Right d t n C F) : Right d (putAt d t (C : Int) (F : Int) (a : Int)) n C F := by
  refine ⟨by unfold putAt; rw [List.length_set, List.length_set]; exact H.1, fun f c h1 h2 h3 => ?_⟩
  rw [put_other d t C F a f c H.1 hC h1 (by omega) (by omega) (by omega)]
  exact H.2 f c h1 h2 h3
theorem impl_l2 (d : List Int) (hd : Low d) (n : Nat) (hn : n ≤ 7) (hl : d.length = n + 1) (C F : Nat) (hC : 2 ≤ C) (hF : F + C ≤ n) (M : Int) (m : Nat) :
    ∀ (a : Nat) (t : List Int), Right d t n C F → 1 ≤ a → a + m = C → (a = 1 ∨ Ent t F C = Pre d F C (a - 1)) →
    ∃ t', Right d t' n C (F + 1) ∧ ∀ r, Ev (fun k => impl_bests.l1 k d t' (n : Int) (C : Int) M ((F + 1 : Nat) : Int)) r → Ev (fun k => impl_bests.l2 k d t (n : Int) (C : Int) M (F : Int) (a : Int)) r := by
  induction m with
  | zero =>
    intro a t H h1 ha he
    refine ⟨t, ⟨H.1, fun f c g1 g2 g3 => ?_⟩, fun r hr => ?_⟩
    · by_cases hh : c = C ∧ f = F
      · obtain ⟨rfl, rfl⟩ := hh
        rw [he.resolve_left (by omega), E_pre d f c hC (by omega), show a = c by omega]
      · exact H.2 f c g1 g2 (by omega)
    · refine Ev.step (fun k => impl_bests.l2.eq_2 d t _ _ _ _ _ k) ?_
      have e1 : wrap64 ((F : Int) + 1) = ((F + 1 : Nat) : Int) := by
        rw [w64 (by omega) (by omega)]
        omega
      simp only [if_neg (show ¬ (a : Int) < (C : Int) by omega), e1]
      exact hr
  | succ m ih =>
    intro a t H h1 ha he
    have e1 : wrap64 ((a : Int) + 1) = ((a + 1 : Nat) : Int) := by
      rw [w64 (by omega) (by omega)]
      omega
    have hG : Gd d t (C : Int) (F : Int) (a : Int) := ⟨by omega, by omega, by omega, by omega, by omega, H.1⟩
    have t1 := H.2 F a h1 (by omega) (.inl (by omega))
    have t2 := H.2 (F + a) (C - a) (by omega) (by omega) (.inl (by omega))
    have r1 : rd t (16 * (F : Int) + 2 * (a : Int)) = (E d F a).1 := congrArg Prod.fst t1
    have r2 : rd t (16 * ((F : Int) + (a : Int)) + 2 * ((C : Int) - (a : Int))) = (E d (F + a) (C - a)).1 := by
      have := congrArg Prod.fst t2
      unfold Ent at this
      simp only at this
      rw [show 16 * ((F : Int) + (a : Int)) + 2 * ((C : Int) - (a : Int)) = 16 * ((F + a : Nat) : Int) + 2 * ((C - a : Nat) : Int) by omega]
      exact this
    have b1 := E_bound d hd a h1 (by omega) F
    have b2 := E_bound d hd (C - a) (by omega) (by omega) (F + a)
    have sm := sums (x := (E d F a).1) (y := (E d (F + a) (C - a)).1) (by omega) (by omega) (hd (F : Int)) (hd ((F : Int) + (a : Int))) (hd ((F : Int) + (C : Int)))
    have hcost : costAt d t (C : Int) (F : Int) (a : Int) = costE d (E d) F C (a - 1) := by
      unfold costAt costE
      rw [r1, r2, sm, show a - 1 + 1 = a by omega, show F + (a - 1) + 1 = F + a by omega, show C - (a - 1) - 1 = C - a by omega]
      rfl
    have hpre : Pre d F C a = choose (Pre d F C (a - 1)) (costE d (E d) F C (a - 1)) (a : Int) := by
      have := pre_succ d F C (a - 1)
      rw [show a - 1 + 1 = a by omega] at this
      exact this
    have P : Pre d F C a = (costE d (E d) F C (a - 1), (a : Int)) → ∃ t', Right d t' n C (F + 1) ∧ ∀ r, Ev (fun k => impl_bests.l1 k d t' (n : Int) (C : Int) M ((F + 1 : Nat) : Int)) r → Ev (fun k => impl_bests.l2 k d (putAt d t (C : Int) (F : Int) (a : Int)) (n : Int) (C : Int) M (F : Int) ((a + 1 : Nat) : Int)) r := by
      intro hp
      refine ih (a + 1) (putAt d t (C : Int) (F : Int) (a : Int)) (put_right d t n C F a hn (by omega) hF H) (by omega) (by omega) (.inr ?_)
      rw [put_same d t C F a H.1 (by omega) (by omega), Nat.add_sub_cancel, hp, hcost]
    by_cases k1 : a = 1
    · have hp : Pre d F C a = (costE d (E d) F C (a - 1), (a : Int)) := by
        rw [hpre]
        subst k1
        rw [pre_zero]
        rfl
      obtain ⟨t', R', h'⟩ := P hp
      refine ⟨t', R', fun r hr => ?_⟩
      refine Ev.step (fun k => impl_bests.l2.eq_2 d t _ _ _ _ _ k) ?_
      simp only [if_pos (show (a : Int) < (C : Int) by omega), if_pos hG, if_pos (show (a : Int) = 1 by omega), e1]
      exact h' r hr
    · have hent := he.resolve_left k1
      have hcur : rd t (16 * (F : Int) + 2 * (C : Int)) = (Pre d F C (a - 1)).1 := congrArg Prod.fst hent
      have hnn := pre_bound d hd F C (by omega) (a - 2) (by omega)
      rw [show a - 2 + 1 = a - 1 by omega] at hnn
      by_cases k2 : costE d (E d) F C (a - 1) < (Pre d F C (a - 1)).1
      · have hp : Pre d F C a = (costE d (E d) F C (a - 1), (a : Int)) := by
          rw [hpre]
          unfold choose
          rw [if_neg (by omega), if_pos k2]
        obtain ⟨t', R', h'⟩ := P hp
        refine ⟨t', R', fun r hr => ?_⟩
        refine Ev.step (fun k => impl_bests.l2.eq_2 d t _ _ _ _ _ k) ?_
        simp only [if_pos (show (a : Int) < (C : Int) by omega), if_pos hG, if_neg (show ¬ (a : Int) = 1 by omega), hcost, hcur, if_pos k2, e1]
        exact h' r hr
      · have hp : Pre d F C a = Pre d F C (a - 1) := by
          rw [hpre]
          unfold choose
          rw [if_neg (by omega), if_neg k2]
        obtain ⟨t', R', h'⟩ := ih (a + 1) t H (by omega) (by omega) (.inr (by rw [Nat.add_sub_cancel, hp]; exact hent))
        refine ⟨t', R', fun r hr => ?_⟩
        refine Ev.step (fun k => impl_bests.l2.eq_2 d t _ _ _ _ _ k) ?_
        simp only [if_pos (show (a : Int) < (C : Int) by omega), if_pos hG, if_neg (show ¬ (a : Int) = 1 by omega), hcost, hcur, if_neg k2, e1]
        exact h' r hr
theorem impl_l1 (d : List Int) (hd : Low d) (n : Nat) (hn : n ≤ 7) (hl : d.length = n + 1) (C : Nat) (hC : 2 ≤ C) (hCn : C ≤ n) (m : Nat) :
    ∀ (F : Nat) (t : List Int), Right d t n C F → F + m = n - C + 1 →
    ∃ t', Right d t' n (C + 1) 0 ∧ ∀ r, Ev (fun k => impl_bests.l0 k d t' (n : Int) ((C + 1 : Nat) : Int)) r → Ev (fun k => impl_bests.l1 k d t (n : Int) (C : Int) ((n - C + 1 : Nat) : Int) (F : Int)) r := by
  induction m with
  | zero =>
    intro F t H hF
    refine ⟨t, ⟨H.1, fun f c g1 g2 g3 => H.2 f c g1 g2 (by omega)⟩, fun r hr => ?_⟩
    have e1 : wrap64 ((C : Int) + 1) = ((C + 1 : Nat) : Int) := by
      rw [w64 (by omega) (by omega)]
      omega
    refine Ev.step (fun k => impl_bests.l1.eq_2 d t _ _ _ _ k) ?_
    simp only [if_neg (show ¬ (F : Int) < ((n - C + 1 : Nat) : Int) by omega), e1]
    exact hr
  | succ m ih =>
    intro F t H hF
    obtain ⟨t1, R1, h1⟩ := impl_l2 d hd n hn hl C F hC (by omega) ((n - C + 1 : Nat) : Int) (C - 1) 1 t H (Nat.le_refl _) (by omega) (.inl rfl)
    obtain ⟨t2, R2, h2⟩ := ih (F + 1) t1 R1 (by omega)
    refine ⟨t2, R2, fun r hr => ?_⟩
    refine Ev.step (fun k => impl_bests.l1.eq_2 d t _ _ _ _ k) ?_
    simp only [if_pos (show (F : Int) < ((n - C + 1 : Nat) : Int) by omega)]
    exact h1 r (h2 r hr)
theorem impl_l0 (d : List Int) (hd : Low d) (n : Nat) (hn : n ≤ 7) (hl : d.length = n + 1) (m : Nat) :
    ∀ (C : Nat) (t : List Int), Right d t n C 0 → 2 ≤ C → C + m = n + 1 → ∃ t', Right d t' n (n + 1) 0 ∧ Ev (fun k => impl_bests.l0 k d t (n : Int) (C : Int)) t' := by
  induction m with
  | zero =>
    intro C t H hC hm
    refine ⟨t, by rw [show n + 1 = C by omega]; exact H, ?_⟩
    refine Ev.step (fun k => impl_bests.l0.eq_2 d t _ _ k) ?_
    simp only [if_neg (show ¬ (C : Int) ≤ (n : Int) by omega)]
    exact Ev.now _
  | succ m ih =>
    intro C t H hC hm
    obtain ⟨t1, R1, h1⟩ := impl_l1 d hd n hn hl C hC (by omega) (n - C + 1) 0 t H (by omega)
    obtain ⟨t2, R2, h2⟩ := ih (C + 1) t1 R1 (by omega) (by omega)
    refine ⟨t2, R2, ?_⟩
    have e1 : wrap64 (wrap64 ((n : Int) - (C : Int)) + 1) = ((n - C + 1 : Nat) : Int) := by
      rw [w64 (n := (n : Int) - (C : Int)) (by omega) (by omega), w64 (by omega) (by omega)]
      omega
    refine Ev.step (fun k => impl_bests.l0.eq_2 d t _ _ k) ?_
    simp only [if_pos (show (C : Int) ≤ (n : Int) by omega), e1]
    exact h1 t2 h2
theorem rd_zero (j : Int) : rd (List.replicate 112 0) j = 0 := by
  unfold rd
  rw [List.getD_eq_getElem?_getD, List.getElem?_replicate]
  split <;> rfl
theorem impl_bests_ev (d : List Int) (hd : Low d) (n : Nat) (hn : n ≤ 7) (h1 : 1 ≤ n) (hl : d.length = n + 1) : ∃ t', Right d t' n (n + 1) 0 ∧ Ev (fun k => impl_bests.f k d) t' := by
  have e1 : wrap64 ((d.length : Int) - 1) = (n : Int) := by
    rw [w64 (by omega) (by omega)]
    omega
  have := impl_l0 d hd n hn hl (n - 1) 2 (List.replicate 112 0) ⟨by simp, fun f c g1 g2 g3 => by
    obtain rfl : c = 1 := by omega
    rw [E_one]
    unfold Ent
    rw [rd_zero, rd_zero]⟩ (Nat.le_refl _) (by omega)
  unfold impl_bests.f
  rw [e1]
  exact this
def dec (n : Nat) : ByteArray := ⟨(Lib.itoa (n : Int)).toArray⟩
theorem dec_small : ∀ j : Fin 10, (dec j.val).size = 1 := by decide +kernel
theorem impl_dec (n : Nat) (h : n < 10) : impl_Decimal.f (n : Int) = some (dec n) := by
  unfold impl_Decimal.f itoaF
  rw [if_pos (by omega)]
  rfl
theorem size_app2 (a b : ByteArray) : (a ++ b).size = a.size + b.size := ByteArray.size_append
/-- The first part of the best lies within. -/
theorem pre_first (d : List Int) (f c : Nat) (m : Nat) : 1 ≤ m → 1 ≤ (Pre d f c m).2 ∧ (Pre d f c m).2 ≤ (m : Int) ∨ (Pre d f c m).1 < 0 := by
  induction m with
  | zero =>
    intro h
    omega
  | succ m ih =>
    intro _
    rw [pre_succ]
    unfold choose
    split
    · left
      simp only
      omega
    · split
      · left
        simp only
        omega
      · rename_i h1 h2
        by_cases hm : m = 0
        · subst hm
          exact absurd (by rw [pre_zero]; decide) h1
        · rcases ih (by omega) with h | h
          · left
            omega
          · exact absurd h h1
theorem E_first (d : List Int) (hd : Low d) (f c : Nat) (h2 : 2 ≤ c) (h8 : c ≤ 8) : ∃ x : Nat, (E d f c).2 = (x : Int) ∧ 1 ≤ x ∧ x < c := by
  have hb := E_bound d hd c (by omega) h8 f
  rw [E_pre d f c h2 h8] at hb ⊢
  rcases pre_first d f c (c - 1) (by omega) with h | h
  · exact ⟨(Pre d f c (c - 1)).2.toNat, by omega, by omega, by omega⟩
  · omega
theorem order_both (d : List Int) (hd : Low d) (hl : d.length ≤ 8) (t : List Int) (n : Nat) (hn : n ≤ 7) (hln : d.length = n + 1) (R : Right d t n (n + 1) 0) (c : Nat) : 1 ≤ c → ∀ f, f + c ≤ n →
    ∃ r : ByteArray, r.size + 2 ≤ 3 * c ∧ Ev (fun k => spec_l09Order.f k d (f : Int) ((f + c : Nat) : Int)) r ∧ Ev (fun k => impl_orderOf.f k t (f : Int) (c : Int)) r := by
  induction c using Nat.strongRecOn with
  | ind c ih =>
    intro h1 f hf
    have e0 : wrap64 (((f + c : Nat) : Int) - (f : Int)) = (c : Int) := by
      rw [w64 (by omega) (by omega)]
      omega
    by_cases hc : c = 1
    · subst hc
      have hz := dec_small ⟨f, by omega⟩
      simp only at hz
      refine ⟨dec f, by omega, ?_, ?_⟩
      · refine Ev.step (fun k => spec_l09Order.f.eq_2 d _ _ k) ?_
        simp only [e0, if_pos (show ((1 : Nat) : Int) = 1 from rfl)]
        refine Ev.bind (spec_dec (f : Int) (by omega) (by omega)) ?_
        exact Ev.now _
      · refine Ev.step (fun k => impl_orderOf.f.eq_2 t _ _ k) ?_
        simp only [if_pos (show ((1 : Nat) : Int) = 1 from rfl), impl_dec f (by omega)]
        exact Ev.now _
    · obtain ⟨x, hx, x1, x2⟩ := E_first d hd f c (by omega) (by omega)
      obtain ⟨a, za, sa, ia⟩ := ih x x2 x1 f (by omega)
      obtain ⟨b, zb, sb, ib⟩ := ih (c - x) (by omega) (by omega) (f + x) (by omega)
      have ent := congrArg Prod.snd (R.2 f c h1 hf (.inl (by omega)))
      have hrd : rd t (16 * (f : Int) + 2 * (c : Int) + 1) = (x : Int) := by
        rw [← hx]
        exact ent
      have s1 : ((⟨#[40]⟩ : ByteArray) ++ a).size = 1 + a.size := by rw [size_app2]; rfl
      have s2 : (((⟨#[40]⟩ : ByteArray) ++ a) ++ b).size = 1 + a.size + b.size := by rw [size_app2, s1]
      have s3 : ((((⟨#[40]⟩ : ByteArray) ++ a) ++ b) ++ (⟨#[41]⟩ : ByteArray)).size = 1 + a.size + b.size + 1 := by rw [size_app2, s2]; rfl
      have hS := spec_best d hd hl c h1 f (by omega)
      have e1 : wrap64 ((f : Int) + (E d f c).2) = ((f + x : Nat) : Int) := by
        rw [hx, w64 (by omega) (by omega)]
        omega
      rw [show f + x + (c - x) = f + c by omega] at sb
      refine ⟨(((⟨#[40]⟩ : ByteArray) ++ a) ++ b) ++ (⟨#[41]⟩ : ByteArray), by rw [s3]; omega, ?_, ?_⟩
      · refine Ev.step (fun k => spec_l09Order.f.eq_2 d _ _ k) ?_
        simp only [e0, if_neg (show ¬ (c : Int) = 1 by omega)]
        refine Ev.bind hS ?_
        simp only [e1]
        refine Ev.bind sa ?_
        simp only [if_pos (show 1 + a.size ≤ 9223372036854775807 by omega)]
        refine Ev.bind sb ?_
        simp only [if_pos (show ((⟨#[40]⟩ : ByteArray) ++ a).size + b.size ≤ 9223372036854775807 by omega), if_pos (show (((⟨#[40]⟩ : ByteArray) ++ a) ++ b).size + 1 ≤ 9223372036854775807 by omega)]
        exact Ev.now _
      · have hG : Go_ t (f : Int) (c : Int) (x : Int) := ⟨by omega, by omega, by omega, by omega, R.1⟩
        refine Ev.step (fun k => impl_orderOf.f.eq_2 t _ _ k) ?_
        simp only [if_neg (show ¬ (c : Int) = 1 by omega), hrd, if_pos hG]
        refine Ev.bind ia ?_
        rw [show (f : Int) + (x : Int) = ((f + x : Nat) : Int) by omega, show (c : Int) - (x : Int) = ((c - x : Nat) : Int) by omega]
        refine Ev.bind ib ?_
        simp only [if_pos (show a.size + b.size ≤ 1000 by omega)]
        exact Ev.now _
theorem both (xs : List Int) (hx : xs.length ≤ 140737488351232) : ∃ r, Ev (fun k => spec_ChainOrder.f k xs) r ∧ Ev (fun k => impl_ChainOrder.f k xs) r := by
  unfold spec_ChainOrder.f impl_ChainOrder.f
  by_cases h : dimsR xs = true
  · obtain ⟨l2, l8⟩ := dims_len xs h
    have hd := low_of xs h
    obtain ⟨t, R, hb⟩ := impl_bests_ev xs hd (xs.length - 1) (by omega) (by omega) (by omega)
    obtain ⟨r, _, hs, hi⟩ := order_both xs hd l8 t (xs.length - 1) (by omega) (by omega) R (xs.length - 1) (by omega) 0 (by omega)
    have e1 : wrap64 ((xs.length : Int) - 1) = ((0 + (xs.length - 1) : Nat) : Int) := by
      rw [w64 (by omega) (by omega)]
      omega
    refine ⟨r, ?_, ?_⟩
    · refine Ev.bind (spec_dims xs hx) ?_
      simp only [if_pos h, e1]
      refine Ev.bind hs ?_
      exact Ev.now _
    · refine Ev.bind (impl_dims xs hx) ?_
      simp only [if_pos h]
      refine Ev.bind hb ?_
      rw [Nat.zero_add] at e1
      simp only [if_pos R.1, e1]
      exact hi
  · refine ⟨⟨#[]⟩, ?_, ?_⟩
    · refine Ev.bind (spec_dims xs hx) ?_
      simp only [if_neg h]
      exact Ev.now _
    · refine Ev.bind (impl_dims xs hx) ?_
      simp only [if_neg h]
      exact Ev.now _
end ChainOrder
theorem FnExactChainOrder : laws_FnExactChainOrder.Pure := by
  intro xs _ hs _
  refine Ev.rounds ?_
  unfold laws_FnExactChainOrder.f
  by_cases hb : (xs.length : Int) > 1048576
  · simp only [if_pos hb]
    exact Ev.now _
  · simp only [if_neg hb]
    obtain ⟨r, h1, h2⟩ := ChainOrder.both xs (by omega)
    refine Ev.bind (ChainOrder.toInt xs hs) ?_
    refine Ev.bind h1 ?_
    refine Ev.bind (ChainOrder.toInt xs hs) ?_
    refine Ev.bind h2 ?_
    simp only [if_true]
    refine Ev.bind (ChainOrder.toInt xs hs) ?_
    refine Ev.bind (ChainOrder.eqInt xs hs) ?_
    simp only [if_true]
    exact Ev.now _
end Go.Proofs.YtokhjlaomgimmaaDoor.Pure
