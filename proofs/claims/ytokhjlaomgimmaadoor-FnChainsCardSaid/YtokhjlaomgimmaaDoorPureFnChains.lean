/- The law of the chains: no drawn order of a drawn chain costs less than ChainOrder's, which costs ChainCost; ChainWays counts the orders. -/
import Derived.Test.YtokhjlaomgimmaaDoorQFnChainsx4
import Derived.Test.YtokhjlaomgimmaaDoorCostTieI
import Derived.Test.YtokhjlaomgimmaaDoorDecLib
import Derived.Test.YtokhjlaomgimmaaDoorDrawLib
namespace Go.Proofs.YtokhjlaomgimmaaDoor.Pure
open Go.RowKit Go.Proofs.YtokhjlaomgimmaaDoor.PFnChains Go.Proofs.YtokhjlaomgimmaaDoorW.PrintWords Go.Proofs.YtokhjlaomgimmaaDoorW.PrintLast Go.Proofs.YtokhjlaomgimmaaDoor.Lib Go.Proofs.YtokhjlaomgimmaaDoor.Parse
set_option linter.unusedSimpArgs false
set_option linter.unusedVariables false
namespace Chains
/-- n of the numbers from place i on lie in 1 .. 5. -/
def dimsN (xs : List Int) : Nat → Int → Bool
  | 0, _ => true
  | n + 1, i => if 1 ≤ rd xs i ∧ rd xs i ≤ 5 then dimsN xs n (i + 1) else false
theorem impl_in (a b c : Int) : impl_inRange.f a b c = some (decide (b ≤ a ∧ a ≤ c)) := by
  unfold impl_inRange.f
  by_cases h : a ≥ b
  · rw [if_pos h]
    congr 1
    simp only [show b ≤ a from h, true_and]
  · rw [if_neg h, decide_eq_false (by omega)]
def dimsR (xs : List Int) : Bool := decide (2 ≤ xs.length ∧ xs.length ≤ 8) && dimsN xs xs.length 0
theorem impl_dims_l0 (xs : List Int) (hx : xs.length ≤ 140737488351232) (n : Nat) : ∀ (i : Int), 0 ≤ i → i + n = xs.length →
    Ev (fun k => impl_DimsOk.l0 k xs xs (xs.length : Int) i) (decide (2 ≤ xs.length ∧ xs.length ≤ 8) && dimsN xs n i) := by
  induction n with
  | zero =>
    intro i h0 hn
    refine Ev.step (fun k => impl_DimsOk.l0.eq_2 xs xs (xs.length : Int) i k) ?_
    simp only [if_neg (show ¬ i < (xs.length : Int) by omega), impl_in, Option.bind_some, dimsN, Bool.and_true]
    rw [show decide (2 ≤ xs.length ∧ xs.length ≤ 8) = decide ((2 : Int) ≤ (xs.length : Int) ∧ (xs.length : Int) ≤ 8) from decide_eq_decide.2 (by omega)]
    exact Ev.now _
  | succ n ih =>
    intro i h0 hn
    refine Ev.step (fun k => impl_DimsOk.l0.eq_2 xs xs (xs.length : Int) i k) ?_
    unfold impl_isDim.f
    simp only [if_pos (show i < (xs.length : Int) by omega), if_pos h0, impl_in, Option.bind_some, dimsN]
    by_cases h : 1 ≤ rd xs i ∧ rd xs i ≤ 5
    · simp only [decide_eq_true h, if_true, if_pos h]
      rw [w64 (by omega) (by omega)]
      exact ih (i + 1) (by omega) (by omega)
    · simp only [decide_eq_false h, Bool.false_eq_true, if_false, if_neg h, Bool.and_false]
      exact Ev.now _
theorem impl_dims (xs : List Int) (hx : xs.length ≤ 140737488351232) : Ev (fun k => impl_DimsOk.f k xs) (dimsR xs) := by
  unfold impl_DimsOk.f dimsR
  exact impl_dims_l0 xs hx xs.length 0 (by omega) (by omega)
theorem byte_some (l : List Int) (hl : l.length ≤ 140737488351232) (i h : Int) (h0 : 0 ≤ i) (h1 : i ≤ l.length) :
    ∃ x i' h', spec_l01Byte.f l i h = some (x, i', h') ∧ 0 ≤ x ∧ x ≤ 255 ∧ 0 ≤ i' ∧ i' ≤ l.length := by
  unfold spec_l01Byte.f
  by_cases hi : i < (l.length : Int)
  · rw [if_pos hi, if_pos h0]
    refine ⟨_, _, _, rfl, (and255 _).1, (and255 _).2, ?_, ?_⟩
    · rw [w64 (by omega) (by omega)]
      omega
    · rw [w64 (by omega) (by omega)]
      omega
  · rw [if_neg hi]
    exact ⟨_, _, _, rfl, (and255 _).1, (and255 _).2, h0, h1⟩
theorem below_some (l : List Int) (hl : l.length ≤ 140737488351232) (i h : Int) (h0 : 0 ≤ i) (h1 : i ≤ l.length) (n : Int) (hn : 0 < n) :
    ∃ x i' h', spec_l01Below.f l i h n = some (x, i', h') ∧ 0 ≤ x ∧ x < n ∧ 0 ≤ i' ∧ i' ≤ l.length := by
  unfold spec_l01Below.f
  rw [if_neg (show ¬ n ≤ 0 by omega)]
  by_cases h2 : n ≤ 256
  · rw [if_pos h2]
    obtain ⟨x, i1, h1', e, x0, x1, g0, g1⟩ := byte_some l hl i h h0 h1
    rw [e]
    simp only [Option.bind_some, if_neg (show ¬ n = 0 by omega)]
    refine ⟨_, _, _, rfl, ?_, ?_, g0, g1⟩
    · rw [Int.tmod_eq_emod_of_nonneg x0]
      exact Int.emod_nonneg _ (by omega)
    · rw [Int.tmod_eq_emod_of_nonneg x0]
      exact Int.emod_lt_of_pos _ hn
  · rw [if_neg h2]
    obtain ⟨x, i1, t1, e1, x0, x1, g0, g1⟩ := byte_some l hl i h h0 h1
    obtain ⟨y, i2, t2, e2, y0, y1, g2, g3⟩ := byte_some l hl i1 t1 g0 g1
    obtain ⟨z, i3, t3, e3, z0, z1, g4, g5⟩ := byte_some l hl i2 t2 g2 g3
    obtain ⟨u, i4, t4, e4, u0, u1, g6, g7⟩ := byte_some l hl i3 t3 g4 g5
    rw [e1]
    simp only [Option.bind_some, e2, e3, e4, if_neg (show ¬ n = 0 by omega)]
    have s : 0 ≤ wrap64 (wrap64 (wrap64 (wrap64 (x * 16777216) + wrap64 (y * 65536)) + wrap64 (z * 256)) + u) := by
      rw [w64 (n := x * 16777216) (by omega) (by omega), w64 (n := y * 65536) (by omega) (by omega), w64 (n := x * 16777216 + y * 65536) (by omega) (by omega), w64 (n := z * 256) (by omega) (by omega), w64 (n := x * 16777216 + y * 65536 + z * 256) (by omega) (by omega), w64 (by omega) (by omega)]
      omega
    refine ⟨_, _, _, rfl, ?_, ?_, g6, g7⟩
    · rw [Int.tmod_eq_emod_of_nonneg s]
      exact Int.emod_nonneg _ (by omega)
    · rw [Int.tmod_eq_emod_of_nonneg s]
      exact Int.emod_lt_of_pos _ hn
theorem new_l0 (l : List Int) (hl : l.length ≤ 140737488351232) (n : Nat) : ∀ (h i : Int), 0 ≤ i → i + n = l.length → ∃ h', Ev (fun k => spec_l01New.l0 k l h i) (l, 0, h') := by
  induction n with
  | zero =>
    intro h i h0 hn
    refine ⟨h, ?_⟩
    refine Ev.step (fun k => spec_l01New.l0.eq_2 l h i k) ?_
    simp only [if_neg (show ¬ i < (l.length : Int) by omega)]
    exact Ev.now _
  | succ n ih =>
    intro h i h0 hn
    by_cases h4 : i < 4000
    · obtain ⟨h', H⟩ := ih (Go.bits .and .i64 (wrap64 ((wrap64 ((wrap64 (h * 131)) + (wrap64 (rd l i)))) + 7)) 1073741823) (i + 1) (by omega) (by omega)
      refine ⟨h', ?_⟩
      refine Ev.step (fun k => spec_l01New.l0.eq_2 l h i k) ?_
      simp only [if_pos (show i < (l.length : Int) by omega), if_pos h4, if_pos h0]
      rw [w64 (n := i + 1) (by omega) (by omega)]
      exact H
    · refine ⟨h, ?_⟩
      refine Ev.step (fun k => spec_l01New.l0.eq_2 l h i k) ?_
      simp only [if_pos (show i < (l.length : Int) by omega), if_neg h4]
      exact Ev.now _
theorem new_some (l : List Int) (hl : l.length ≤ 140737488351232) : ∃ h', Ev (fun k => spec_l01New.f k l) (l, 0, h') := by
  unfold spec_l01New.f
  exact new_l0 l hl l.length _ 0 (by omega) (by omega)
theorem fig_spec (x : Nat) (h : x < 10) : spec_l01Figure.f (x : Int) = some (48 + (x : Int)) := by
  unfold spec_l01Figure.f
  rw [if_pos (by omega), w64 (by omega) (by omega)]
  congr 1
  omega
/-- The two signs. -/
def signed (neg : Bool) (m : Nat) : Int := if neg = true then -(m : Int) else (m : Int)
theorem dec_l0 (neg : Bool) (d : Nat) : ∀ (m : Nat) (l : List UInt8), m < 10 ^ d → m ≤ 9223372036854775808 → (neg = false → m ≤ 9223372036854775807) → l.length + d ≤ 1000 →
    Ev (fun k => spec_Decimal.l0 k (signed neg m) neg ⟨l.toArray⟩) ⟨((if neg = true then [45] else []) ++ digs m ++ l).toArray⟩ := by
  have base : ∀ l : List UInt8, l.length ≤ 1000 → Ev (fun k => spec_Decimal.l0 k (signed neg 0) neg ⟨l.toArray⟩) ⟨((if neg = true then [45] else []) ++ digs 0 ++ l).toArray⟩ := by
    intro l hl
    refine Ev.step (fun k => spec_Decimal.l0.eq_2 (signed neg 0) neg ⟨l.toArray⟩ k) ?_
    have e : signed neg 0 = 0 := by
      unfold signed
      cases neg <;> rfl
    have hz : 1 + (⟨l.toArray⟩ : ByteArray).size ≤ 9223372036854775807 := by
      rw [size_mk]
      omega
    simp only [e, if_true, if_pos hz]
    cases neg
    · simp only [Bool.false_eq_true, if_false, digs, if_true, List.nil_append]
      exact Ev.now _
    · simp only [if_true, digs]
      rw [show ((⟨#[45]⟩ : ByteArray) ++ ⟨l.toArray⟩) = ⟨([45] ++ [] ++ l).toArray⟩ by
        rw [append_mk]
        rw [ByteArray.toList_eq]
        rfl]
      exact Ev.now _
  induction d with
  | zero =>
    intro m l hm _ _ hl
    obtain rfl : m = 0 := by simpa using hm
    exact base l (by omega)
  | succ d ih =>
    intro m l hm h63 hpos hl
    by_cases h0 : m = 0
    · subst h0
      exact base l (by omega)
    · refine Ev.step (fun k => spec_Decimal.l0.eq_2 (signed neg m) neg ⟨l.toArray⟩ k) ?_
      have hne : signed neg m ≠ 0 := by
        unfold signed
        split <;> omega
      have hq : m / 10 < 10 ^ d := by
        rw [Nat.div_lt_iff_lt_mul (by decide)]
        rw [Nat.pow_succ] at hm
        exact hm
      have hdv : wrap64 (Int.tdiv (signed neg m) 10) = signed neg (m / 10) := by
        unfold signed
        cases neg
        · simp only [Bool.false_eq_true, if_false]
          rw [Int.tdiv_eq_ediv_of_nonneg (by omega)]
          have := hpos rfl
          unfold wrap64
          omega
        · simp only [if_true]
          rw [Int.neg_tdiv, Int.tdiv_eq_ediv_of_nonneg (by omega)]
          unfold wrap64
          omega
      have hz : (strOfNums [(48 : Int) + ((m % 10 : Nat) : Int)]).size + (⟨l.toArray⟩ : ByteArray).size ≤ 9223372036854775807 := by
        rw [strOfNums_size, size_mk]
        simp only [List.length_cons, List.length_nil]
        omega
      have hap : strOfNums [(48 : Int) + ((m % 10 : Nat) : Int)] ++ (⟨l.toArray⟩ : ByteArray) = ⟨((UInt8.ofNat (48 + m % 10)) :: l).toArray⟩ := by
        rw [append_mk, strOfNums_toList]
        congr 2
      have IH := ih (m / 10) (UInt8.ofNat (48 + m % 10) :: l) hq (by omega) (fun h => by have := hpos h; omega) (by simp only [List.length_cons]; omega)
      have hres : ((if neg = true then [45] else []) ++ digs (m / 10) ++ UInt8.ofNat (48 + m % 10) :: l) = ((if neg = true then [45] else []) ++ digs m ++ l) := by
        rw [digs_step h0]
        simp only [List.append_assoc, List.cons_append, List.nil_append]
      rw [hres] at IH
      simp only [if_neg hne, hdv]
      by_cases hn : Int.tmod (signed neg m) 10 < 0
      · have ht : wrap64 (-(Int.tmod (signed neg m) 10)) = ((m % 10 : Nat) : Int) := by
          unfold signed at hn ⊢
          cases neg
          · simp only [Bool.false_eq_true, if_false] at hn
            rw [Int.tmod_eq_emod_of_nonneg (by omega)] at hn
            omega
          · simp only [if_true]
            rw [Int.neg_tmod, Int.tmod_eq_emod_of_nonneg (by omega)]
            unfold wrap64
            omega
        simp only [if_pos hn, ht, fig_spec _ (show m % 10 < 10 by omega), Option.bind_some, if_pos hz, hap]
        exact IH
      · have ht : Int.tmod (signed neg m) 10 = ((m % 10 : Nat) : Int) := by
          unfold signed at hn ⊢
          cases neg
          · simp only [Bool.false_eq_true, if_false]
            rw [Int.tmod_eq_emod_of_nonneg (by omega)]
            omega
          · simp only [if_true] at hn ⊢
            rw [Int.neg_tmod, Int.tmod_eq_emod_of_nonneg (by omega)] at hn ⊢
            omega
        simp only [if_neg hn, ht, fig_spec _ (show m % 10 < 10 by omega), Option.bind_some, if_pos hz, hap]
        exact IH
theorem spec_dec (n : Int) (h0 : -9223372036854775808 ≤ n) (h1 : n ≤ 9223372036854775807) : Ev (fun k => spec_Decimal.f k n) ⟨(Lib.itoa n).toArray⟩ := by
  have e0 : (⟨#[]⟩ : ByteArray) = ⟨([] : List UInt8).toArray⟩ := rfl
  unfold spec_Decimal.f
  by_cases hz : n = 0
  · subst hz
    simp only [if_true, itoa_zero]
    exact Ev.now _
  · simp only [if_neg hz]
    by_cases hn : n < 0
    · obtain ⟨m, rfl⟩ : ∃ m : Nat, n = -(m : Int) := ⟨n.natAbs, by omega⟩
      have := dec_l0 true 19 m [] (by omega) (by omega) (fun h => by cases h) (by decide)
      rw [itoa_neg m (by omega)]
      simpa only [signed, if_true, decide_eq_true hn, e0, List.append_nil, List.cons_append, List.nil_append] using this
    · obtain ⟨m, rfl⟩ := Int.eq_ofNat_of_zero_le (show 0 ≤ n by omega)
      have := dec_l0 false 19 m [] (by omega) (by omega) (fun _ => by omega) (by decide)
      rw [itoa_pos m (by omega)]
      simpa only [signed, Bool.false_eq_true, if_false, decide_eq_false hn, e0, List.append_nil, List.nil_append] using this
/-- The better of two, as both programs choose. -/
def choose (b : Int × Int) (n a : Int) : Int × Int := if b.1 < 0 then (n, a) else if n < b.1 then (n, a) else b
def costE (d : List Int) (E : Nat → Nat → Int × Int) (f c j : Nat) : Int := (E f (j + 1)).1 + (E (f + j + 1) (c - j - 1)).1 + rd d (f : Int) * rd d ((f + j + 1 : Nat) : Int) * rd d ((f + c : Nat) : Int)
def stepE (d : List Int) (E : Nat → Nat → Int × Int) (f c : Nat) (b : Int × Int) (j : Nat) : Int × Int := choose b (costE d E f c j) ((j + 1 : Nat) : Int)
def best (d : List Int) : Nat → Nat → Nat → Int × Int
  | 0, _, _ => (0, 0)
  | n + 1, f, c => if c ≤ 1 then (0, 0) else (List.range (c - 1)).foldl (stepE d (best d n) f c) (-1, 0)
theorem foldl_same {α β : Type} {f g : α → β → α} (l : List β) (h : ∀ a, ∀ b ∈ l, f a b = g a b) : ∀ a, l.foldl f a = l.foldl g a := by
  induction l with
  | nil => intro a; rfl
  | cons b l ih =>
    intro a
    rw [List.foldl_cons, List.foldl_cons, h a b List.mem_cons_self]
    exact ih (fun a' b' hb => h a' b' (List.mem_cons_of_mem _ hb)) _
theorem best_low (d : List Int) (n f c : Nat) (h : c ≤ 1) : best d n f c = (0, 0) := by
  cases n with
  | zero => rfl
  | succ n => rw [best, if_pos h]
theorem best_fuel (d : List Int) (n : Nat) : ∀ m f c, c ≤ n → c ≤ m → best d n f c = best d m f c := by
  induction n with
  | zero =>
    intro m f c h1 h2
    rw [best_low d 0 f c (by omega), best_low d m f c (by omega)]
  | succ n ih =>
    intro m f c h1 h2
    by_cases hc : c ≤ 1
    · rw [best_low d _ f c hc, best_low d _ f c hc]
    · cases m with
      | zero => omega
      | succ m =>
        rw [best, best, if_neg hc, if_neg hc]
        refine foldl_same _ (fun a j hj => ?_) _
        have hj' := List.mem_range.1 hj
        unfold stepE costE
        rw [ih m f (j + 1) (by omega) (by omega), ih m (f + j + 1) (c - j - 1) (by omega) (by omega)]
def E (d : List Int) (f c : Nat) : Int × Int := best d 8 f c
/-- What is chosen of the first m ways. -/
def Pre (d : List Int) (f c m : Nat) : Int × Int := (List.range m).foldl (stepE d (E d) f c) (-1, 0)
theorem pre_zero (d : List Int) (f c : Nat) : Pre d f c 0 = (-1, 0) := rfl
theorem pre_succ (d : List Int) (f c m : Nat) : Pre d f c (m + 1) = choose (Pre d f c m) (costE d (E d) f c m) ((m + 1 : Nat) : Int) := by
  unfold Pre
  rw [List.range_succ, List.foldl_append]
  rfl
theorem E_one (d : List Int) (f : Nat) : E d f 1 = (0, 0) := best_low d 8 f 1 (by omega)
theorem E_pre (d : List Int) (f c : Nat) (h2 : 2 ≤ c) (h8 : c ≤ 8) : E d f c = Pre d f c (c - 1) := by
  unfold E Pre
  rw [best, if_neg (by omega)]
  refine foldl_same _ (fun a j hj => ?_) _
  have hj' := List.mem_range.1 hj
  unfold stepE costE E
  rw [best_fuel d 7 8 f (j + 1) (by omega) (by omega), best_fuel d 7 8 (f + j + 1) (c - j - 1) (by omega) (by omega)]
/-- The sizes lie between 0 and 6. -/
def Low (d : List Int) : Prop := ∀ i : Int, 0 ≤ rd d i ∧ rd d i ≤ 6
theorem three {a b c : Int} (ha : 0 ≤ a ∧ a ≤ 6) (hb : 0 ≤ b ∧ b ≤ 6) (hc : 0 ≤ c ∧ c ≤ 6) : 0 ≤ a * b ∧ a * b ≤ 36 ∧ 0 ≤ a * b * c ∧ a * b * c ≤ 216 := by
  have h1 : 0 ≤ a * b := Int.mul_nonneg ha.1 hb.1
  have h2 : a * b ≤ 6 * 6 := Int.mul_le_mul ha.2 hb.2 hb.1 (by decide)
  have h3 : 0 ≤ a * b * c := Int.mul_nonneg h1 hc.1
  have h4 : a * b * c ≤ 36 * 6 := Int.mul_le_mul h2 hc.2 hc.1 (by decide)
  exact ⟨h1, h2, h3, h4⟩
theorem E_bound (d : List Int) (hd : Low d) (c : Nat) : 1 ≤ c → c ≤ 8 → ∀ f, 0 ≤ (E d f c).1 ∧ (E d f c).1 ≤ 216 * ((c : Int) - 1) := by
  induction c using Nat.strongRecOn with
  | ind c ih =>
    intro h1 h8 f
    by_cases hc : c = 1
    · subst hc
      rw [E_one]
      decide
    · rw [E_pre d f c (by omega) h8]
      have cost : ∀ j, j < c - 1 → 0 ≤ costE d (E d) f c j ∧ costE d (E d) f c j ≤ 216 * ((c : Int) - 1) := by
        intro j hj
        obtain ⟨a1, a2⟩ := ih (j + 1) (by omega) (by omega) (by omega) f
        obtain ⟨b1, b2⟩ := ih (c - j - 1) (by omega) (by omega) (by omega) (f + j + 1)
        obtain ⟨_, _, c1, c2⟩ := three (hd (f : Int)) (hd ((f + j + 1 : Nat) : Int)) (hd ((f + c : Nat) : Int))
        unfold costE
        omega
      have P : ∀ m, m < c - 1 → 0 ≤ (Pre d f c (m + 1)).1 ∧ (Pre d f c (m + 1)).1 ≤ 216 * ((c : Int) - 1) := by
        intro m
        induction m with
        | zero =>
          intro hm
          rw [pre_succ, pre_zero]
          exact cost 0 hm
        | succ m ihm =>
          intro hm
          have h3 := ihm (by omega)
          have h4 := cost (m + 1) hm
          rw [pre_succ]
          unfold choose
          split
          · exact h4
          · split
            · exact h4
            · exact h3
      have := P (c - 2) (by omega)
      rw [show c - 2 + 1 = c - 1 by omega] at this
      exact this
theorem pre_bound (d : List Int) (hd : Low d) (f c : Nat) (h8 : c ≤ 8) (m : Nat) : m < c - 1 → 0 ≤ (Pre d f c (m + 1)).1 := by
  have cost : ∀ j, j < c - 1 → 0 ≤ costE d (E d) f c j := by
    intro j hj
    obtain ⟨a1, a2⟩ := E_bound d hd (j + 1) (by omega) (by omega) f
    obtain ⟨b1, b2⟩ := E_bound d hd (c - j - 1) (by omega) (by omega) (f + j + 1)
    obtain ⟨_, _, c1, c2⟩ := three (hd (f : Int)) (hd ((f + j + 1 : Nat) : Int)) (hd ((f + c : Nat) : Int))
    unfold costE
    omega
  induction m with
  | zero =>
    intro hm
    rw [pre_succ, pre_zero]
    exact cost 0 hm
  | succ m ihm =>
    intro hm
    have h3 := ihm (by omega)
    have h4 := cost (m + 1) hm
    rw [pre_succ]
    unfold choose
    split
    · exact h4
    · split
      · exact h4
      · exact h3
theorem sums {x y p q r : Int} (hx : 0 ≤ x ∧ x ≤ 2000) (hy : 0 ≤ y ∧ y ≤ 2000) (hp : 0 ≤ p ∧ p ≤ 6) (hq : 0 ≤ q ∧ q ≤ 6) (hr : 0 ≤ r ∧ r ≤ 6) :
    wrap64 (wrap64 (x + y) + wrap64 (wrap64 (p * q) * r)) = x + y + p * q * r := by
  obtain ⟨h1, h2, h3, h4⟩ := three hp hq hr
  rw [w64 (n := p * q) (by omega) (by omega), w64 (n := p * q * r) (by omega) (by omega), w64 (n := x + y) (by omega) (by omega), w64 (by omega) (by omega)]
theorem dimsN_at (xs : List Int) (n : Nat) : ∀ i : Int, dimsN xs n i = true → ∀ j : Int, i ≤ j → j < i + n → 1 ≤ rd xs j ∧ rd xs j ≤ 5 := by
  induction n with
  | zero =>
    intro i _ j h1 h2
    omega
  | succ n ih =>
    intro i h j h1 h2
    unfold dimsN at h
    by_cases hc : 1 ≤ rd xs i ∧ rd xs i ≤ 5
    · rw [if_pos hc] at h
      by_cases hj : j = i
      · rw [hj]
        exact hc
      · exact ih (i + 1) h j (by omega) (by omega)
    · rw [if_neg hc] at h
      cases h
theorem low_of (xs : List Int) (h : dimsR xs = true) : Low xs := by
  unfold dimsR at h
  rw [Bool.and_eq_true] at h
  intro i
  by_cases hi : 0 ≤ i ∧ i < (xs.length : Int)
  · have := dimsN_at xs xs.length 0 h.2 i hi.1 (by omega)
    omega
  · by_cases hn : i < 0
    · have := dimsN_at xs xs.length 0 h.2 0 (by omega) (by have := of_decide_eq_true h.1; omega)
      unfold rd at this ⊢
      rw [show i.toNat = 0 by omega]
      simp only [Int.toNat_zero] at this
      omega
    · have : rd xs i = 0 := by
        unfold rd
        rw [List.getD_eq_getElem?_getD, List.getElem?_eq_none (by omega)]
        rfl
      omega
theorem dims_len (xs : List Int) (h : dimsR xs = true) : 2 ≤ xs.length ∧ xs.length ≤ 8 := by
  unfold dimsR at h
  rw [Bool.and_eq_true] at h
  exact of_decide_eq_true h.1
/-- An entry of the table. -/
def Ent (t : List Int) (f c : Nat) : Int × Int := (rd t (16 * (f : Int) + 2 * (c : Int)), rd t (16 * (f : Int) + 2 * (c : Int) + 1))
theorem rd_set (t : List Int) (i j : Nat) (x : Int) (hj : j < t.length) : rd (t.set i x) (j : Int) = if i = j then x else rd t (j : Int) := by
  unfold rd
  rw [Int.toNat_natCast, List.getD_eq_getElem?_getD, List.getD_eq_getElem?_getD, List.getElem?_set]
  by_cases h : i = j
  · subst h
    rw [if_pos rfl, if_pos hj, if_pos rfl]
    rfl
  · rw [if_neg h, if_neg h]
theorem put_rd (d t : List Int) (C F a : Nat) (ht : t.length = 112) (j : Nat) (hj : j < 112) :
    rd (putAt d t (C : Int) (F : Int) (a : Int)) (j : Int) = if 16 * F + 2 * C + 1 = j then (a : Int) else if 16 * F + 2 * C = j then costAt d t (C : Int) (F : Int) (a : Int) else rd t (j : Int) := by
  unfold putAt
  rw [show (16 * (F : Int) + 2 * (C : Int) + 1).toNat = 16 * F + 2 * C + 1 by omega, show (16 * (F : Int) + 2 * (C : Int)).toNat = 16 * F + 2 * C by omega]
  rw [rd_set _ _ _ _ (by rw [List.length_set]; omega), rd_set _ _ _ _ (by omega)]
theorem ent_nat (t : List Int) (f c : Nat) : Ent t f c = (rd t ((16 * f + 2 * c : Nat) : Int), rd t ((16 * f + 2 * c + 1 : Nat) : Int)) := by
  unfold Ent
  rw [show (16 * (f : Int) + 2 * (c : Int)) = ((16 * f + 2 * c : Nat) : Int) by omega, show (((16 * f + 2 * c : Nat) : Int) + 1) = ((16 * f + 2 * c + 1 : Nat) : Int) by omega]
theorem put_same (d t : List Int) (C F a : Nat) (ht : t.length = 112) (hC : 1 ≤ C) (h : F + C ≤ 7) : Ent (putAt d t (C : Int) (F : Int) (a : Int)) F C = (costAt d t (C : Int) (F : Int) (a : Int), (a : Int)) := by
  rw [ent_nat, put_rd d t C F a ht _ (by omega), put_rd d t C F a ht _ (by omega), if_neg (by omega), if_pos rfl, if_pos rfl]
theorem put_other (d t : List Int) (C F a f c : Nat) (ht : t.length = 112) (hC : 1 ≤ C) (hc : 1 ≤ c) (h : F + C ≤ 7) (h' : f + c ≤ 7) (hne : ¬ (f = F ∧ c = C)) : Ent (putAt d t (C : Int) (F : Int) (a : Int)) f c = Ent t f c := by
  rw [ent_nat, ent_nat, put_rd d t C F a ht _ (by omega), put_rd d t C F a ht _ (by omega), if_neg (by omega), if_neg (by omega), if_neg (by omega), if_neg (by omega)]
/-- The table is right up to the part F of C matrices. -/
def Right (d t : List Int) (n C F : Nat) : Prop := t.length = 112 ∧ ∀ f c, 1 ≤ c → f + c ≤ n → (c < C ∨ (c = C ∧ f < F)) → Ent t f c = E d f c
theorem put_right (d t : List Int) (n C F a : Nat) (hn : n ≤ 7) (hC : 1 ≤ C) (h : F + C ≤ n) (H : Right d t n C F) : Right d (putAt d t (C : Int) (F : Int) (a : Int)) n C F := by
  refine ⟨by unfold putAt; rw [List.length_set, List.length_set]; exact H.1, fun f c h1 h2 h3 => ?_⟩
  rw [put_other d t C F a f c H.1 hC h1 (by omega) (by omega) (by omega)]
  exact H.2 f c h1 h2 h3
theorem impl_l2 (d : List Int) (hd : Low d) (n : Nat) (hn : n ≤ 7) (hl : d.length = n + 1) (C F : Nat) (hC : 2 ≤ C) (hF : F + C ≤ n) (M : Int) (m : Nat) :
    ∀ (a : Nat) (t : List Int), Right d t n C F → 1 ≤ a → a + m = C → (a = 1 ∨ Ent t F C = Pre d F C (a - 1)) →
    ∃ t', Right d t' n C (F + 1) ∧ ∀ r, Ev (fun k => impl_bests.l1 k d t' (n : Int) (C : Int) M ((F + 1 : Nat) : Int)) r → Ev (fun k => impl_bests.l2 k d t (n : Int) (C : Int) M (F : Int) (a : Int)) r := by
  induction m with
  | zero =>
    intro a t H h1 ha he
    refine ⟨t, ⟨H.1, fun f c g1 g2 g3 => ?_⟩, fun r hr => ?_⟩
    · by_cases hh : c = C ∧ f = F
      · obtain ⟨rfl, rfl⟩ := hh
        rw [he.resolve_left (by omega), E_pre d f c hC (by omega), show a = c by omega]
      · exact H.2 f c g1 g2 (by omega)
    · refine Ev.step (fun k => impl_bests.l2.eq_2 d t _ _ _ _ _ k) ?_
      have e1 : wrap64 ((F : Int) + 1) = ((F + 1 : Nat) : Int) := by
        rw [w64 (by omega) (by omega)]
        omega
      simp only [if_neg (show ¬ (a : Int) < (C : Int) by omega), e1]
      exact hr
  | succ m ih =>
    intro a t H h1 ha he
    have e1 : wrap64 ((a : Int) + 1) = ((a + 1 : Nat) : Int) := by
      rw [w64 (by omega) (by omega)]
      omega
    have hG : Gd d t (C : Int) (F : Int) (a : Int) := ⟨by omega, by omega, by omega, by omega, by omega, H.1⟩
    have t1 := H.2 F a h1 (by omega) (.inl (by omega))
    have t2 := H.2 (F + a) (C - a) (by omega) (by omega) (.inl (by omega))
    have r1 : rd t (16 * (F : Int) + 2 * (a : Int)) = (E d F a).1 := congrArg Prod.fst t1
    have r2 : rd t (16 * ((F : Int) + (a : Int)) + 2 * ((C : Int) - (a : Int))) = (E d (F + a) (C - a)).1 := by
      have := congrArg Prod.fst t2
      unfold Ent at this
      simp only at this
      rw [show 16 * ((F : Int) + (a : Int)) + 2 * ((C : Int) - (a : Int)) = 16 * ((F + a : Nat) : Int) + 2 * ((C - a : Nat) : Int) by omega]
      exact this
    have b1 := E_bound d hd a h1 (by omega) F
    have b2 := E_bound d hd (C - a) (by omega) (by omega) (F + a)
    have sm := sums (x := (E d F a).1) (y := (E d (F + a) (C - a)).1) (by omega) (by omega) (hd (F : Int)) (hd ((F : Int) + (a : Int))) (hd ((F : Int) + (C : Int)))
    have hcost : costAt d t (C : Int) (F : Int) (a : Int) = costE d (E d) F C (a - 1) := by
      unfold costAt costE
      rw [r1, r2, sm, show a - 1 + 1 = a by omega, show F + (a - 1) + 1 = F + a by omega, show C - (a - 1) - 1 = C - a by omega]
      rfl
    have hpre : Pre d F C a = choose (Pre d F C (a - 1)) (costE d (E d) F C (a - 1)) (a : Int) := by
      have := pre_succ d F C (a - 1)
      rw [show a - 1 + 1 = a by omega] at this
      exact this
    have P : Pre d F C a = (costE d (E d) F C (a - 1), (a : Int)) → ∃ t', Right d t' n C (F + 1) ∧ ∀ r, Ev (fun k => impl_bests.l1 k d t' (n : Int) (C : Int) M ((F + 1 : Nat) : Int)) r → Ev (fun k => impl_bests.l2 k d (putAt d t (C : Int) (F : Int) (a : Int)) (n : Int) (C : Int) M (F : Int) ((a + 1 : Nat) : Int)) r := by
      intro hp
      refine ih (a + 1) (putAt d t (C : Int) (F : Int) (a : Int)) (put_right d t n C F a hn (by omega) hF H) (by omega) (by omega) (.inr ?_)
      rw [put_same d t C F a H.1 (by omega) (by omega), Nat.add_sub_cancel, hp, hcost]
    by_cases k1 : a = 1
    · have hp : Pre d F C a = (costE d (E d) F C (a - 1), (a : Int)) := by
        rw [hpre]
        subst k1
        rw [pre_zero]
        rfl
      obtain ⟨t', R', h'⟩ := P hp
      refine ⟨t', R', fun r hr => ?_⟩
      refine Ev.step (fun k => impl_bests.l2.eq_2 d t _ _ _ _ _ k) ?_
      simp only [if_pos (show (a : Int) < (C : Int) by omega), if_pos hG, if_pos (show (a : Int) = 1 by omega), e1]
      exact h' r hr
    · have hent := he.resolve_left k1
      have hcur : rd t (16 * (F : Int) + 2 * (C : Int)) = (Pre d F C (a - 1)).1 := congrArg Prod.fst hent
      have hnn := pre_bound d hd F C (by omega) (a - 2) (by omega)
      rw [show a - 2 + 1 = a - 1 by omega] at hnn
      by_cases k2 : costE d (E d) F C (a - 1) < (Pre d F C (a - 1)).1
      · have hp : Pre d F C a = (costE d (E d) F C (a - 1), (a : Int)) := by
          rw [hpre]
          unfold choose
          rw [if_neg (by omega), if_pos k2]
        obtain ⟨t', R', h'⟩ := P hp
        refine ⟨t', R', fun r hr => ?_⟩
        refine Ev.step (fun k => impl_bests.l2.eq_2 d t _ _ _ _ _ k) ?_
        simp only [if_pos (show (a : Int) < (C : Int) by omega), if_pos hG, if_neg (show ¬ (a : Int) = 1 by omega), hcost, hcur, if_pos k2, e1]
        exact h' r hr
      · have hp : Pre d F C a = Pre d F C (a - 1) := by
          rw [hpre]
          unfold choose
          rw [if_neg (by omega), if_neg k2]
        obtain ⟨t', R', h'⟩ := ih (a + 1) t H (by omega) (by omega) (.inr (by rw [Nat.add_sub_cancel, hp]; exact hent))
        refine ⟨t', R', fun r hr => ?_⟩
        refine Ev.step (fun k => impl_bests.l2.eq_2 d t _ _ _ _ _ k) ?_
        simp only [if_pos (show (a : Int) < (C : Int) by omega), if_pos hG, if_neg (show ¬ (a : Int) = 1 by omega), hcost, hcur, if_neg k2, e1]
        exact h' r hr
theorem impl_l1 (d : List Int) (hd : Low d) (n : Nat) (hn : n ≤ 7) (hl : d.length = n + 1) (C : Nat) (hC : 2 ≤ C) (hCn : C ≤ n) (m : Nat) :
    ∀ (F : Nat) (t : List Int), Right d t n C F → F + m = n - C + 1 →
    ∃ t', Right d t' n (C + 1) 0 ∧ ∀ r, Ev (fun k => impl_bests.l0 k d t' (n : Int) ((C + 1 : Nat) : Int)) r → Ev (fun k => impl_bests.l1 k d t (n : Int) (C : Int) ((n - C + 1 : Nat) : Int) (F : Int)) r := by
  induction m with
  | zero =>
    intro F t H hF
    refine ⟨t, ⟨H.1, fun f c g1 g2 g3 => H.2 f c g1 g2 (by omega)⟩, fun r hr => ?_⟩
    have e1 : wrap64 ((C : Int) + 1) = ((C + 1 : Nat) : Int) := by
      rw [w64 (by omega) (by omega)]
      omega
    refine Ev.step (fun k => impl_bests.l1.eq_2 d t _ _ _ _ k) ?_
    simp only [if_neg (show ¬ (F : Int) < ((n - C + 1 : Nat) : Int) by omega), e1]
    exact hr
  | succ m ih =>
    intro F t H hF
    obtain ⟨t1, R1, h1⟩ := impl_l2 d hd n hn hl C F hC (by omega) ((n - C + 1 : Nat) : Int) (C - 1) 1 t H (Nat.le_refl _) (by omega) (.inl rfl)
    obtain ⟨t2, R2, h2⟩ := ih (F + 1) t1 R1 (by omega)
    refine ⟨t2, R2, fun r hr => ?_⟩
    refine Ev.step (fun k => impl_bests.l1.eq_2 d t _ _ _ _ k) ?_
    simp only [if_pos (show (F : Int) < ((n - C + 1 : Nat) : Int) by omega)]
    exact h1 r (h2 r hr)
theorem impl_l0 (d : List Int) (hd : Low d) (n : Nat) (hn : n ≤ 7) (hl : d.length = n + 1) (m : Nat) :
    ∀ (C : Nat) (t : List Int), Right d t n C 0 → 2 ≤ C → C + m = n + 1 → ∃ t', Right d t' n (n + 1) 0 ∧ Ev (fun k => impl_bests.l0 k d t (n : Int) (C : Int)) t' := by
  induction m with
  | zero =>
    intro C t H hC hm
    refine ⟨t, by rw [show n + 1 = C by omega]; exact H, ?_⟩
    refine Ev.step (fun k => impl_bests.l0.eq_2 d t _ _ k) ?_
    simp only [if_neg (show ¬ (C : Int) ≤ (n : Int) by omega)]
    exact Ev.now _
  | succ m ih =>
    intro C t H hC hm
    obtain ⟨t1, R1, h1⟩ := impl_l1 d hd n hn hl C hC (by omega) (n - C + 1) 0 t H (by omega)
    obtain ⟨t2, R2, h2⟩ := ih (C + 1) t1 R1 (by omega) (by omega)
    refine ⟨t2, R2, ?_⟩
    have e1 : wrap64 (wrap64 ((n : Int) - (C : Int)) + 1) = ((n - C + 1 : Nat) : Int) := by
      rw [w64 (n := (n : Int) - (C : Int)) (by omega) (by omega), w64 (by omega) (by omega)]
      omega
    refine Ev.step (fun k => impl_bests.l0.eq_2 d t _ _ k) ?_
    simp only [if_pos (show (C : Int) ≤ (n : Int) by omega), e1]
    exact h1 t2 h2
theorem rd_zero (j : Int) : rd (List.replicate 112 0) j = 0 := by
  unfold rd
  rw [List.getD_eq_getElem?_getD, List.getElem?_replicate]
  split <;> rfl
theorem impl_bests_ev (d : List Int) (hd : Low d) (n : Nat) (hn : n ≤ 7) (h1 : 1 ≤ n) (hl : d.length = n + 1) : ∃ t', Right d t' n (n + 1) 0 ∧ Ev (fun k => impl_bests.f k d) t' := by
  have e1 : wrap64 ((d.length : Int) - 1) = (n : Int) := by
    rw [w64 (by omega) (by omega)]
    omega
  have := impl_l0 d hd n hn hl (n - 1) 2 (List.replicate 112 0) ⟨by simp, fun f c g1 g2 g3 => by
    obtain rfl : c = 1 := by omega
    rw [E_one]
    unfold Ent
    rw [rd_zero, rd_zero]⟩ (Nat.le_refl _) (by omega)
  unfold impl_bests.f
  rw [e1]
  exact this
def dec (n : Nat) : ByteArray := ⟨(Lib.itoa (n : Int)).toArray⟩
theorem dec_small : ∀ j : Fin 10, (dec j.val).size = 1 := by decide +kernel
theorem impl_dec (n : Nat) (h : n < 10) : impl_Decimal.f (n : Int) = some (dec n) := by
  unfold impl_Decimal.f itoaF
  rw [if_pos (by omega)]
  rfl
theorem size_app2 (a b : ByteArray) : (a ++ b).size = a.size + b.size := ByteArray.size_append
theorem bt_left (a b : ByteArray) (i : Nat) (h : i < a.size) : bt (a ++ b) (i : Int) = bt a (i : Int) := by
  unfold bt
  simp only [Int.toNat_natCast]
  rw [dif_pos (by rw [size_app2]; omega), dif_pos h, ByteArray.getElem_append_left h]
theorem bt_right (a b : ByteArray) (i : Nat) : bt (a ++ b) ((a.size + i : Nat) : Int) = bt b (i : Int) := by
  unfold bt
  simp only [Int.toNat_natCast]
  by_cases h : i < b.size
  · rw [dif_pos (by rw [size_app2]; omega), dif_pos h, ByteArray.getElem_append_right (by omega)]
    congr 2
    simp
  · rw [dif_neg (by rw [size_app2]; omega), dif_neg h]
/-- The text of an order of the matrices from one on up to another one, and what it costs. -/
inductive Ord (d : List Int) : Nat → Nat → ByteArray → Int → Prop
  | one (x : Nat) (h : x < 10) : Ord d x (x + 1) (dec x) 0
  | two {a b e : Nat} {s t : ByteArray} {c1 c2 : Int} : Ord d a b s c1 → Ord d b e t c2 → Ord d a e ((((⟨#[40]⟩ : ByteArray) ++ s) ++ t) ++ (⟨#[41]⟩ : ByteArray)) (c1 + c2 + rd d (a : Int) * rd d (b : Int) * rd d (e : Int))
theorem Ord.lt {d : List Int} {a e : Nat} {s : ByteArray} {c : Int} (h : Ord d a e s c) : a < e := by
  induction h with
  | one x h => omega
  | two _ _ h1 h2 => omega
def Holds (T : ByteArray) (p : Nat) (s : ByteArray) : Prop := p + s.size ≤ T.size ∧ ∀ i : Nat, i < s.size → bt T ((p + i : Nat) : Int) = bt s (i : Int)
theorem Holds.left {T : ByteArray} {p : Nat} {s t : ByteArray} (h : Holds T p (s ++ t)) : Holds T p s := by
  obtain ⟨h1, h2⟩ := h
  rw [size_app2] at h1 h2
  refine ⟨by omega, fun i hi => ?_⟩
  rw [h2 i (by omega), bt_left _ _ _ hi]
theorem Holds.right {T : ByteArray} {p : Nat} {s t : ByteArray} (h : Holds T p (s ++ t)) : Holds T (p + s.size) t := by
  obtain ⟨h1, h2⟩ := h
  rw [size_app2] at h1 h2
  refine ⟨by omega, fun i hi => ?_⟩
  have := h2 (s.size + i) (by omega)
  rw [bt_right] at this
  rw [← this, Nat.add_assoc]
theorem dec_at : ∀ j : Fin 10, bt (dec j.val) 0 = 48 + (j.val : Int) := by decide +kernel
theorem holds_one {T : ByteArray} {p : Nat} {x : UInt8} (h : Holds T p (⟨#[x]⟩ : ByteArray)) : p < T.size ∧ bt T (p : Int) = (x.toNat : Int) := by
  obtain ⟨h1, h2⟩ := h
  have hs : (⟨#[x]⟩ : ByteArray).size = 1 := rfl
  rw [hs] at h1 h2
  have := h2 0 (by omega)
  rw [Nat.add_zero] at this
  refine ⟨by omega, ?_⟩
  rw [this]
  rfl
theorem Ord.read {d : List Int} {a e : Nat} {s : ByteArray} {c : Int} (h : Ord d a e s c) : ∀ (T : ByteArray) (p m : Nat), Holds T p s → e ≤ d.length - 1 → e ≤ a + m → PT T d m p a = some (p + s.size, e, c) := by
  induction h with
  | one x h =>
    intro T p m hH he hm
    obtain ⟨m, rfl⟩ : ∃ j, m = j + 1 := ⟨m - 1, by omega⟩
    have hz := dec_small ⟨x, h⟩
    have ha := dec_at ⟨x, h⟩
    simp only at hz ha
    obtain ⟨h1, h2⟩ := hH
    rw [hz] at h1 h2 ⊢
    have hb := h2 0 (by omega)
    rw [Nat.add_zero] at hb
    have hb : bt T (p : Int) = 48 + (x : Int) := hb.trans ha
    exact P_leaf (c := fun i => bt T (i : Int)) (d := fun i => rd d (i : Int)) (by omega) (by rw [hb]; omega) hb (by omega)
  | @two a b e s t c1 c2 o1 o2 ih1 ih2 =>
    intro T p m hH he hm
    have l1 := o1.lt
    have l2 := o2.lt
    obtain ⟨m, rfl⟩ : ∃ j, m = j + 1 := ⟨m - 1, by omega⟩
    obtain ⟨q1, q2⟩ := holds_one hH.left.left.left
    have r1 := ih1 T (p + 1) m hH.left.left.right (by omega) (by omega)
    have hs1 : ((⟨#[40]⟩ : ByteArray) ++ s).size = 1 + s.size := by rw [size_app2]; rfl
    have H2 := hH.left.right
    rw [hs1] at H2
    have hs2 : ((⟨#[40]⟩ : ByteArray) ++ s ++ t).size = 1 + s.size + t.size := by rw [size_app2, hs1]
    have H3 := hH.right
    rw [hs2] at H3
    obtain ⟨q3, q4⟩ := holds_one H3
    have r2 := ih2 T (p + 1 + s.size) m (by rw [show p + 1 + s.size = p + (1 + s.size) by omega]; exact H2) (by omega) (by omega)
    have hs3 : ((⟨#[40]⟩ : ByteArray) ++ s ++ t ++ (⟨#[41]⟩ : ByteArray)).size = 1 + s.size + t.size + 1 := by rw [size_app2, hs2]; rfl
    rw [hs3, show p + (1 + s.size + t.size + 1) = (p + 1 + s.size + t.size) + 1 by omega]
    rw [show p + (1 + s.size + t.size) = p + 1 + s.size + t.size by omega] at q3 q4
    exact P_pair (c := fun i => bt T (i : Int)) (d := fun i => rd d (i : Int)) q1 q2 r1 r2 q3 q4
theorem pre_least (d : List Int) (hd : Low d) (f c : Nat) (h8 : c ≤ 8) (m : Nat) : m ≤ c - 1 → ∀ j, j < m → (Pre d f c m).1 ≤ costE d (E d) f c j := by
  induction m with
  | zero => intro _ j hj; omega
  | succ m ih =>
    intro hm j hj
    rw [pre_succ]
    unfold choose
    by_cases h1 : (Pre d f c m).1 < 0
    · rw [if_pos h1]
      have hm0 : m = 0 := by
        cases m with
        | zero => rfl
        | succ m => have := pre_bound d hd f c h8 m (by omega); omega
      have : j = m := by omega
      rw [this]
      exact Int.le_refl _
    · rw [if_neg h1]
      by_cases h2 : costE d (E d) f c m < (Pre d f c m).1
      · rw [if_pos h2]
        by_cases hjm : j = m
        · rw [hjm]; exact Int.le_refl _
        · have := ih (by omega) j (by omega)
          simp only
          omega
      · rw [if_neg h2]
        by_cases hjm : j = m
        · rw [hjm]; omega
        · exact ih (by omega) j (by omega)
theorem pre_at (d : List Int) (f c : Nat) (m : Nat) : 1 ≤ m → ∃ j, j < m ∧ (Pre d f c m).2 = ((j + 1 : Nat) : Int) ∧ (Pre d f c m).1 = costE d (E d) f c j ∨ (Pre d f c m).1 < 0 := by
  induction m with
  | zero => intro h; omega
  | succ m ih =>
    intro _
    rw [pre_succ]
    unfold choose
    by_cases h1 : (Pre d f c m).1 < 0
    · rw [if_pos h1]; exact ⟨m, .inl ⟨by omega, rfl, rfl⟩⟩
    · rw [if_neg h1]
      by_cases h2 : costE d (E d) f c m < (Pre d f c m).1
      · rw [if_pos h2]; exact ⟨m, .inl ⟨by omega, rfl, rfl⟩⟩
      · rw [if_neg h2]
        by_cases hm : m = 0
        · subst hm
          exact absurd (by rw [pre_zero]; decide) h1
        · obtain ⟨j, h | h⟩ := ih (by omega)
          · exact ⟨j, .inl ⟨by omega, h.2⟩⟩
          · exact ⟨0, .inr h⟩
theorem E_at (d : List Int) (hd : Low d) (f c : Nat) (h2 : 2 ≤ c) (h8 : c ≤ 8) : ∃ x : Nat, (E d f c).2 = (x : Int) ∧ 1 ≤ x ∧ x < c ∧ (E d f c).1 = (E d f x).1 + (E d (f + x) (c - x)).1 + rd d (f : Int) * rd d ((f + x : Nat) : Int) * rd d ((f + c : Nat) : Int) := by
  have hb := E_bound d hd c (by omega) h8 f
  rw [E_pre d f c h2 h8] at hb ⊢
  obtain ⟨j, h | h⟩ := pre_at d f c (c - 1) (by omega)
  · refine ⟨j + 1, h.2.1, by omega, by omega, ?_⟩
    rw [h.2.2]
    unfold costE
    rfl
  · omega
theorem E_least (d : List Int) (hd : Low d) (f c x : Nat) (h8 : c ≤ 8) (h1 : 1 ≤ x) (h2 : x < c) : (E d f c).1 ≤ (E d f x).1 + (E d (f + x) (c - x)).1 + rd d (f : Int) * rd d ((f + x : Nat) : Int) * rd d ((f + c : Nat) : Int) := by
  have := pre_least d hd f c h8 (c - 1) (by omega) (x - 1) (by omega)
  rw [E_pre d f c (by omega) h8]
  unfold costE at this
  rw [show x - 1 + 1 = x by omega, show f + (x - 1) + 1 = f + x by omega, show c - (x - 1) - 1 = c - x by omega] at this
  exact this
/-- No order costs less than the best. -/
theorem Ord.least {d : List Int} (hd : Low d) (hl : d.length ≤ 8) {a e : Nat} {s : ByteArray} {c : Int} (h : Ord d a e s c) : e < d.length → (E d a (e - a)).1 ≤ c := by
  induction h with
  | one x h =>
    intro _
    rw [show x + 1 - x = 1 by omega, E_one]
    exact Int.le_refl _
  | @two a b e s t c1 c2 o1 o2 ih1 ih2 =>
    intro he
    have l1 := o1.lt
    have l2 := o2.lt
    have i1 := ih1 (by omega)
    have i2 := ih2 he
    have hx := E_least d hd a (e - a) (b - a) (by omega) (by omega) (by omega)
    rw [show a + (b - a) = b by omega, show a + (e - a) = e by omega, show e - a - (b - a) = e - b by omega] at hx
    omega
theorem order_ord (d : List Int) (hd : Low d) (hl : d.length ≤ 8) (t : List Int) (n : Nat) (hn : n ≤ 7) (hln : d.length = n + 1) (R : Right d t n (n + 1) 0) (c : Nat) : 1 ≤ c → ∀ f, f + c ≤ n →
    ∃ r : ByteArray, r.size + 2 ≤ 3 * c ∧ Ord d f (f + c) r (E d f c).1 ∧ Ev (fun k => impl_orderOf.f k t (f : Int) (c : Int)) r := by
  induction c using Nat.strongRecOn with
  | ind c ih =>
    intro h1 f hf
    by_cases hc : c = 1
    · subst hc
      have hz := dec_small ⟨f, by omega⟩
      simp only at hz
      refine ⟨dec f, by omega, ?_, ?_⟩
      · rw [E_one]; exact Ord.one f (by omega)
      · refine Ev.step (fun k => impl_orderOf.f.eq_2 t _ _ k) ?_
        simp only [if_pos (show ((1 : Nat) : Int) = 1 from rfl), impl_dec f (by omega)]
        exact Ev.now _
    · obtain ⟨x, hx, x1, x2, hE⟩ := E_at d hd f c (by omega) (by omega)
      obtain ⟨a, za, oa, ia⟩ := ih x x2 x1 f (by omega)
      obtain ⟨b, zb, ob, ib⟩ := ih (c - x) (by omega) (by omega) (f + x) (by omega)
      have ent := congrArg Prod.snd (R.2 f c h1 hf (.inl (by omega)))
      have hrd : rd t (16 * (f : Int) + 2 * (c : Int) + 1) = (x : Int) := by
        rw [← hx]
        exact ent
      have s1 : ((⟨#[40]⟩ : ByteArray) ++ a).size = 1 + a.size := by rw [size_app2]; rfl
      have s2 : (((⟨#[40]⟩ : ByteArray) ++ a) ++ b).size = 1 + a.size + b.size := by rw [size_app2, s1]
      have s3 : ((((⟨#[40]⟩ : ByteArray) ++ a) ++ b) ++ (⟨#[41]⟩ : ByteArray)).size = 1 + a.size + b.size + 1 := by rw [size_app2, s2]; rfl
      rw [show f + x + (c - x) = f + c by omega] at ob
      refine ⟨(((⟨#[40]⟩ : ByteArray) ++ a) ++ b) ++ (⟨#[41]⟩ : ByteArray), by rw [s3]; omega, ?_, ?_⟩
      · rw [hE]; exact Ord.two oa ob
      · have hG : Go_ t (f : Int) (c : Int) (x : Int) := ⟨by omega, by omega, by omega, by omega, R.1⟩
        refine Ev.step (fun k => impl_orderOf.f.eq_2 t _ _ k) ?_
        simp only [if_neg (show ¬ (c : Int) = 1 by omega), hrd, if_pos hG]
        refine Ev.bind ia ?_
        rw [show (f : Int) + (x : Int) = ((f + x : Nat) : Int) by omega, show (c : Int) - (x : Int) = ((c - x : Nat) : Int) by omega]
        refine Ev.bind ib ?_
        simp only [if_pos (show a.size + b.size ≤ 1000 by omega)]
        exact Ev.now _
/-- The program's count looks at the list's length alone. -/
theorem ways_len (xs ys : List Int) (h : xs.length = ys.length) : ∀ k, (∀ a b, impl_ChainWays.l0 k xs a b = impl_ChainWays.l0 k ys a b) ∧ (∀ a b c d, impl_ChainWays.l1 k xs a b c d = impl_ChainWays.l1 k ys a b c d) := by
  intro k
  induction k with
  | zero => exact ⟨fun _ _ => rfl, fun _ _ _ _ => rfl⟩
  | succ k ih =>
    refine ⟨fun a b => ?_, fun a b c d => ?_⟩
    · rw [impl_ChainWays.l0.eq_2, impl_ChainWays.l0.eq_2, h]
      simp only [ih.2]
    · rw [impl_ChainWays.l1.eq_2, impl_ChainWays.l1.eq_2]
      simp only [ih.1, ih.2]
def waysN : Nat → Int
  | 2 => 1
  | 3 => 1
  | 4 => 2
  | 5 => 5
  | 6 => 14
  | 7 => 42
  | _ => 132
theorem ways_impl : ∀ n : Nat, 2 ≤ n → n ≤ 8 → impl_ChainWays.l0 60 (List.replicate n 0) [0, 1] 2 = some (waysN n) := by
  intro n h1 h2
  have h' : n = 2 ∨ n = 3 ∨ n = 4 ∨ n = 5 ∨ n = 6 ∨ n = 7 ∨ n = 8 := by omega
  rcases h' with rfl | rfl | rfl | rfl | rfl | rfl | rfl <;> decide +kernel
/-- What an order costs, and whether it is one. -/
def readAns (xs : List Int) (T : ByteArray) : Int × Bool := match PT T xs (T.size + 1) 0 0 with
  | none => (0, false)
  | some (a, x, c) => if a = T.size ∧ x = xs.length - 1 then (c, true) else (0, false)
def ans (xs : List Int) (T : ByteArray) : Int × Bool := if dimsR xs = true then readAns xs T else (0, false)
theorem read_none {xs : List Int} {T : ByteArray} (h : PT T xs (T.size + 1) 0 0 = none) : readAns xs T = (0, false) := by
  unfold readAns; rw [h]
theorem read_some {xs : List Int} {T : ByteArray} {a x : Nat} {c : Int} (h : PT T xs (T.size + 1) 0 0 = some (a, x, c)) : readAns xs T = if a = T.size ∧ x = xs.length - 1 then (c, true) else (0, false) := by
  unfold readAns; rw [h]
theorem ans_long (xs : List Int) (T : ByteArray) (l8 : xs.length ≤ 8) (h : 21 < T.size) : readAns xs T = (0, false) := by
  cases hp : PT T xs (T.size + 1) 0 0 with
  | none => exact read_none hp
  | some r =>
    obtain ⟨a, x, c⟩ := r
    rw [read_some hp, if_neg]
    rintro ⟨h1, h2⟩
    have := P_long hp
    have := P_on hp
    omega
theorem dims_each (xs : List Int) (h : dimsR xs = true) : ∀ i : Nat, i < xs.length → 1 ≤ rd xs (i : Int) ∧ rd xs (i : Int) ≤ 5 := by
  unfold dimsR at h
  simp only [Bool.and_eq_true] at h
  intro i hi
  exact dimsN_at xs xs.length 0 h.2 (i : Int) (by omega) (by omega)
theorem impl_cost (xs : List Int) (hx : xs.length ≤ 140737488351232) (T : ByteArray) : Ev (fun k => impl_CostOf.f k xs T) (ans xs T) := by
  unfold impl_CostOf.f ans
  by_cases g : T.size ≤ 21
  case neg =>
    simp only [if_pos (show (T.size : Int) > 21 by omega)]
    by_cases h : dimsR xs = true
    · rw [if_pos h, ans_long xs T (dims_len xs h).2 (by omega)]
      exact Ev.now _
    · rw [if_neg h]
      exact Ev.now _
  simp only [if_neg (show ¬ (T.size : Int) > 21 by omega)]
  refine Ev.bind (impl_dims xs hx) ?_
  by_cases h : dimsR xs = true
  case neg => simp only [if_neg h]; exact Ev.now _
  simp only [if_pos h]
  obtain ⟨l2, l8⟩ := dims_len xs h
  have hd := dims_each xs h
  have ew : wrap64 ((xs.length : Int) - 1) = ((xs.length - 1 : Nat) : Int) := by rw [w64 (by omega) (by omega)]; omega
  rcases impl_tie T xs l2 l8 (by omega) hd (T.size + 1) 0 0 (by omega) (by omega) (by omega) _ (Nat.le_refl _) with ⟨hp, r1, a', x', hf⟩ | ⟨a2, m2, c2, hp, hf⟩
  · refine Ev.bind (Ev.of (fun k => impl_orderReader_part.mono _ _ _ _ _ k) hf) ?_
    simp only [if_true]
    rw [read_none hp]
    exact Ev.now _
  · refine Ev.bind (Ev.of (fun k => impl_orderReader_part.mono _ _ _ _ _ k) hf) ?_
    have on := P_on hp
    simp only [ew]
    rw [if_neg (by simp)]
    by_cases g1 : a2 = T.size
    · rw [if_neg (by omega)]
      by_cases g2 : m2 = xs.length - 1
      · rw [if_pos (by omega), read_some hp, if_pos ⟨g1, g2⟩]
        exact Ev.now _
      · rw [if_neg (by omega), read_some hp, if_neg (fun h => g2 h.2)]
        exact Ev.now _
    · rw [if_pos (by omega), read_some hp, if_neg (fun h => g1 h.1)]
      exact Ev.now _
theorem Ord.size {d : List Int} {a e : Nat} {s : ByteArray} {c : Int} (h : Ord d a e s c) : s.size + 2 = 3 * (e - a) := by
  induction h with
  | one x h =>
    have hz := dec_small ⟨x, h⟩
    simp only at hz
    omega
  | @two a b e s t c1 c2 o1 o2 ih1 ih2 =>
    have l1 := o1.lt
    have l2 := o2.lt
    have s1 : ((⟨#[40]⟩ : ByteArray) ++ s).size = 1 + s.size := by rw [size_app2]; rfl
    have s2 : (((⟨#[40]⟩ : ByteArray) ++ s) ++ t).size = 1 + s.size + t.size := by rw [size_app2, s1]
    have s3 : ((((⟨#[40]⟩ : ByteArray) ++ s) ++ t) ++ (⟨#[41]⟩ : ByteArray)).size = 1 + s.size + t.size + 1 := by rw [size_app2, s2]; rfl
    rw [s3]
    omega
theorem dimsN_of (xs : List Int) (n : Nat) : ∀ i : Int, (∀ j : Int, i ≤ j → j < i + n → 1 ≤ rd xs j ∧ rd xs j ≤ 5) → dimsN xs n i = true := by
  induction n with
  | zero => intro i _; rfl
  | succ n ih =>
    intro i h
    unfold dimsN
    rw [if_pos (h i (by omega) (by omega))]
    exact ih (i + 1) (fun j h1 h2 => h j (by omega) (by omega))
theorem dimsR_of (xs : List Int) (h2 : 2 ≤ xs.length) (h8 : xs.length ≤ 8) (hd : ∀ i : Nat, i < xs.length → 1 ≤ rd xs (i : Int) ∧ rd xs (i : Int) ≤ 5) : dimsR xs = true := by
  unfold dimsR
  simp only [Bool.and_eq_true, decide_eq_true_eq]
  refine ⟨⟨h2, h8⟩, dimsN_of xs xs.length 0 (fun j h1 h2 => ?_)⟩
  obtain ⟨i, rfl⟩ := Int.eq_ofNat_of_zero_le h1
  exact hd i (by omega)
/-- A drawn order is one. -/
theorem any_ord (l : List Int) (hl : l.length ≤ 140737488351232) (d : List Int) (n : Nat) : ∀ (a e : Nat) (i h : Int), a < e → e ≤ 9 → e ≤ a + n → 0 ≤ i → i ≤ l.length →
    ∃ s c i' h', Ord d a e s c ∧ 0 ≤ i' ∧ i' ≤ (l.length : Int) ∧ Ev (fun k => spec_l09Any.f k l i h (a : Int) (e : Int)) (s, i', h') := by
  induction n with
  | zero => intro a e i h h1 h2 h3; omega
  | succ n ih =>
    intro a e i h h1 h2 h3 i0 i1
    by_cases hone : e = a + 1
    · subst hone
      refine ⟨dec a, 0, i, h, Ord.one a (by omega), i0, i1, ?_⟩
      have ew : wrap64 (((a + 1 : Nat) : Int) - (a : Int)) = ((a + 1 - a : Nat) : Int) := by rw [w64 (by omega) (by omega)]; omega
      refine Ev.step (fun k => spec_l09Any.f.eq_2 l i h _ _ k) ?_
      simp only [ew, if_pos (show ((a + 1 - a : Nat) : Int) ≤ 1 by omega)]
      refine Ev.bind (spec_dec (a : Int) (by omega) (by omega)) ?_
      exact Ev.now _
    · obtain ⟨x, i2, t2, hx, x0, x1, j0, j1⟩ := below_some l hl i h i0 i1 (((e - a : Nat) : Int) - 1) (by omega)
      obtain ⟨y, rfl⟩ := Int.eq_ofNat_of_zero_le x0
      have y1 : y + 1 < e - a := by omega
      clear x0 x1
      have f1 : a < a + 1 + y := by omega
      have f2 : a + 1 + y < e := by omega
      have f3 : a + 1 + y ≤ 9 := by omega
      have f4 : a + 1 + y ≤ a + n := by omega
      have f5 : e ≤ a + 1 + y + n := by omega
      obtain ⟨s1, c1, i3, t3, o1, k0, k1, ev1⟩ := ih a (a + 1 + y) i2 t2 f1 f3 f4 j0 j1
      obtain ⟨s2, c2, i4, t4, o2, m0, m1, ev2⟩ := ih (a + 1 + y) e i3 t3 f2 h2 f5 k0 k1
      have z1 := o1.size
      have z2 := o2.size
      have q1 : ((⟨#[40]⟩ : ByteArray) ++ s1).size = 1 + s1.size := by rw [size_app2]; rfl
      have q2 : (((⟨#[40]⟩ : ByteArray) ++ s1) ++ s2).size = 1 + s1.size + s2.size := by rw [size_app2, q1]
      have g1 : 1 + s1.size ≤ 9223372036854775807 := by omega
      have g2 : ((⟨#[40]⟩ : ByteArray) ++ s1).size + s2.size ≤ 9223372036854775807 := by omega
      have g3 : (((⟨#[40]⟩ : ByteArray) ++ s1) ++ s2).size + 1 ≤ 9223372036854775807 := by omega
      have g4 : ¬ ((e - a : Nat) : Int) ≤ 1 := by omega
      have ew : wrap64 ((e : Int) - (a : Int)) = ((e - a : Nat) : Int) := by rw [w64 (by omega) (by omega)]; omega
      have ew1 : wrap64 (((e - a : Nat) : Int) - 1) = ((e - a : Nat) : Int) - 1 := w64 (by omega) (by omega)
      have ek : wrap64 (wrap64 ((a : Int) + 1) + (y : Int)) = ((a + 1 + y : Nat) : Int) := by
        rw [w64 (n := (a : Int) + 1) (by omega) (by omega), w64 (by omega) (by omega)]; omega
      refine ⟨_, _, i4, t4, Ord.two o1 o2, m0, m1, ?_⟩
      refine Ev.step (fun k => spec_l09Any.f.eq_2 l i h _ _ k) ?_
      simp only [ew, if_neg g4, ew1, hx, Option.bind_some, ek]
      refine Ev.bind ev1 ?_
      simp only [if_pos g1]
      refine Ev.bind ev2 ?_
      simp only [if_pos g2, if_pos g3]
      exact Ev.now _
theorem rd_app (xs : List Int) (x : Int) (i : Nat) (h : i < xs.length + 1) : rd (xs ++ [x]) (i : Int) = if i < xs.length then rd xs (i : Int) else x := by
  unfold rd
  simp only [Int.toNat_natCast, List.getD_eq_getElem?_getD]
  by_cases hi : i < xs.length
  · rw [if_pos hi, List.getElem?_append_left hi]
  · rw [if_neg hi, List.getElem?_append_right (by omega)]
    have : i - xs.length = 0 := by omega
    rw [this]
    rfl
theorem draw_l0 (l : List Int) (hl : l.length ≤ 140737488351232) (n : Nat) : ∀ (xs : List Int) (i h : Int), 8 ≤ xs.length + n → xs.length ≤ 8 → (∀ i : Nat, i < xs.length → 1 ≤ rd xs (i : Int) ∧ rd xs (i : Int) ≤ 5) → 0 ≤ i → i ≤ l.length →
    ∃ ys s c, 2 ≤ ys.length ∧ ys.length ≤ 8 ∧ (∀ i : Nat, i < ys.length → 1 ≤ rd ys (i : Int) ∧ rd ys (i : Int) ≤ 5) ∧ Ord ys 0 (ys.length - 1) s c ∧ Ev (fun k => spec_DrawRightDims.l0 k xs (xs.length : Int) l i h) (ys, s) := by
  induction n with
  | zero =>
    intro xs i h h1 h2 hd i0 i1
    obtain ⟨x, i2, t2, hx, x0, x1, j0, j1⟩ := below_some l hl i h i0 i1 7 (by omega)
    have ew : wrap64 (2 + x) = 2 + x := w64 (by omega) (by omega)
    have el : wrap64 ((xs.length : Int) - 1) = ((xs.length - 1 : Nat) : Int) := by rw [w64 (by omega) (by omega)]; omega
    obtain ⟨s, c, i3, t3, o, _, _, ev⟩ := any_ord l hl xs 9 0 (xs.length - 1) i2 t2 (by omega) (by omega) (by omega) j0 j1
    refine ⟨xs, s, c, by omega, h2, hd, o, ?_⟩
    refine Ev.step (fun k => spec_DrawRightDims.l0.eq_2 xs _ l i h k) ?_
    simp only [hx, Option.bind_some, ew, if_neg (show ¬ (xs.length : Int) < 2 + x by omega), el]
    refine Ev.bind ev ?_
    exact Ev.now _
  | succ n ih =>
    intro xs i h h1 h2 hd i0 i1
    obtain ⟨x, i2, t2, hx, x0, x1, j0, j1⟩ := below_some l hl i h i0 i1 7 (by omega)
    have ew : wrap64 (2 + x) = 2 + x := w64 (by omega) (by omega)
    by_cases hlt : (xs.length : Int) < 2 + x
    · obtain ⟨y, i3, t3, hy, y0, y1, k0, k1⟩ := below_some l hl i2 t2 j0 j1 5 (by omega)
      have ey : wrap64 (1 + y) = 1 + y := w64 (by omega) (by omega)
      have e1 : wrap64 ((xs.length : Int) + 1) = ((xs ++ [1 + y]).length : Int) := by
        rw [w64 (by omega) (by omega), List.length_append]
        simp
      have hlen : (xs ++ [1 + y]).length = xs.length + 1 := by simp
      obtain ⟨ys, s, c, r1, r2, r3, r4, r5⟩ := ih (xs ++ [1 + y]) i3 t3 (by omega) (by omega) (by
        intro j hj
        rw [rd_app xs (1 + y) j (by omega)]
        by_cases hjx : j < xs.length
        · rw [if_pos hjx]; exact hd j hjx
        · rw [if_neg hjx]; omega) k0 k1
      refine ⟨ys, s, c, r1, r2, r3, r4, ?_⟩
      refine Ev.step (fun k => spec_DrawRightDims.l0.eq_2 xs _ l i h k) ?_
      simp only [hx, Option.bind_some, ew, if_pos hlt, hy, if_pos (show xs.length < 17592186044416 by omega), ey, e1]
      exact r5
    · have el : wrap64 ((xs.length : Int) - 1) = ((xs.length - 1 : Nat) : Int) := by rw [w64 (by omega) (by omega)]; omega
      obtain ⟨s, c, i3, t3, o, _, _, ev⟩ := any_ord l hl xs 9 0 (xs.length - 1) i2 t2 (by omega) (by omega) (by omega) j0 j1
      refine ⟨xs, s, c, by omega, h2, hd, o, ?_⟩
      refine Ev.step (fun k => spec_DrawRightDims.l0.eq_2 xs _ l i h k) ?_
      simp only [hx, Option.bind_some, ew, if_neg hlt, el]
      refine Ev.bind ev ?_
      exact Ev.now _
theorem draw_dims (l : List Int) (hl : l.length ≤ 140737488351232) : ∃ ys s c, 2 ≤ ys.length ∧ ys.length ≤ 8 ∧ (∀ i : Nat, i < ys.length → 1 ≤ rd ys (i : Int) ∧ rd ys (i : Int) ≤ 5) ∧ Ord ys 0 (ys.length - 1) s c ∧ Ev (fun k => spec_DrawRightDims.f k l) (ys, s) := by
  obtain ⟨h', hn⟩ := new_some l hl
  obtain ⟨ys, s, c, r1, r2, r3, r4, r5⟩ := draw_l0 l hl 8 [] 0 h' (by simp) (by simp) (by intro i hi; simp at hi) (by omega) (by omega)
  refine ⟨ys, s, c, r1, r2, r3, r4, ?_⟩
  unfold spec_DrawRightDims.f
  refine Ev.bind hn ?_
  exact r5
theorem holds_self (s : ByteArray) : Holds s 0 s := ⟨by omega, fun i hi => by rw [Nat.zero_add]⟩
theorem holds_more (s t : ByteArray) : Holds (s ++ t) 0 s := ⟨by rw [size_app2]; omega, fun i hi => by rw [Nat.zero_add, bt_left _ _ _ hi]⟩
theorem ans_ord {xs : List Int} (hR : dimsR xs = true) {s : ByteArray} {c : Int} (hO : Ord xs 0 (xs.length - 1) s c) : ans xs s = (c, true) := by
  have hz := hO.size
  have hp := hO.read s 0 (s.size + 1) (holds_self s) (by omega) (by omega)
  unfold ans
  rw [if_pos hR, read_some hp, if_pos ⟨by omega, rfl⟩]
theorem ans_more {xs : List Int} (hR : dimsR xs = true) {s : ByteArray} {c : Int} (hO : Ord xs 0 (xs.length - 1) s c) : ans xs (s ++ (⟨#[41]⟩ : ByteArray)) = (0, false) := by
  have hz := hO.size
  have hs : (s ++ (⟨#[41]⟩ : ByteArray)).size = s.size + 1 := by rw [size_app2]; rfl
  have hp := hO.read (s ++ (⟨#[41]⟩ : ByteArray)) 0 ((s ++ (⟨#[41]⟩ : ByteArray)).size + 1) (holds_more s _) (by omega) (by omega)
  unfold ans
  rw [if_pos hR, read_some hp, if_neg]
  rintro ⟨h1, _⟩
  omega
theorem chain_order (xs : List Int) (h : dimsR xs = true) : ∃ r, Ev (fun k => impl_ChainOrder.f k xs) r ∧ Ord xs 0 (xs.length - 1) r (E xs 0 (xs.length - 1)).1 := by
  obtain ⟨l2, l8⟩ := dims_len xs h
  have hd := low_of xs h
  obtain ⟨t, R, hb⟩ := impl_bests_ev xs hd (xs.length - 1) (by omega) (by omega) (by omega)
  obtain ⟨r, _, hO, hi⟩ := order_ord xs hd l8 t (xs.length - 1) (by omega) (by omega) R (xs.length - 1) (by omega) 0 (by omega)
  have e1 : wrap64 ((xs.length : Int) - 1) = ((0 + (xs.length - 1) : Nat) : Int) := by
    rw [w64 (by omega) (by omega)]
    omega
  rw [Nat.zero_add] at hO e1
  refine ⟨r, ?_, hO⟩
  unfold impl_ChainOrder.f
  refine Ev.bind (impl_dims xs (by omega)) ?_
  simp only [if_pos h]
  refine Ev.bind hb ?_
  simp only [if_pos R.1, e1]
  exact hi
theorem chain_cost (xs : List Int) (h : dimsR xs = true) : Ev (fun k => impl_ChainCost.f k xs) (E xs 0 (xs.length - 1)).1 := by
  obtain ⟨l2, l8⟩ := dims_len xs h
  have hd := low_of xs h
  obtain ⟨t, R, hb⟩ := impl_bests_ev xs hd (xs.length - 1) (by omega) (by omega) (by omega)
  unfold impl_ChainCost.f
  refine Ev.bind (impl_dims xs (by omega)) ?_
  simp only [if_pos h]
  refine Ev.bind hb ?_
  have ent := R.2 0 (xs.length - 1) (by omega) (by omega) (.inl (by omega))
  have e2 : rd t (2 * ((xs.length : Int) - 1)) = (E xs 0 (xs.length - 1)).1 := by
    have := congrArg Prod.fst ent
    unfold Ent at this
    simp only at this
    rw [← this]
    congr 1
    omega
  simp only [if_pos (show 2 ≤ xs.length ∧ xs.length ≤ 8 ∧ t.length = 112 from ⟨l2, l8, R.1⟩), e2]
  exact Ev.now _
theorem chain_ways (xs : List Int) (h : dimsR xs = true) : Ev (fun k => impl_ChainWays.f k xs) (waysN xs.length) := by
  obtain ⟨l2, l8⟩ := dims_len xs h
  unfold impl_ChainWays.f
  refine Ev.bind (impl_dims xs (by omega)) ?_
  simp only [h, if_true]
  refine Ev.of (fun k => (impl_ChainWays.mono_l k).1 _ _ _) (k := 60) ?_
  rw [(ways_len xs (List.replicate xs.length 0) (by rw [List.length_replicate]) 60).1]
  exact ways_impl xs.length l2 l8
theorem ways_table (n : Nat) (h2 : 2 ≤ n) (h8 : n ≤ 8) : waysN n = rd [1, 1, 2, 5, 14, 42, 132] ((n - 2 : Nat) : Int) := by
  have h' : n = 2 ∨ n = 3 ∨ n = 4 ∨ n = 5 ∨ n = 6 ∨ n = 7 ∨ n = 8 := by omega
  rcases h' with rfl | rfl | rfl | rfl | rfl | rfl | rfl <;> rfl
end Chains
theorem FnChains : laws_FnChains.Pure := by
  intro l _ hl0 _
  have hl : l.length ≤ 140737488351232 := by omega
  refine Ev.rounds ?_
  unfold laws_FnChains.f laws_big.f
  simp only [Option.bind_some]
  by_cases hb : (l.length : Int) > 1048576
  · simp only [decide_eq_true hb, if_true]
    exact Ev.now _
  · simp only [decide_eq_false hb, Bool.false_eq_true, if_false]
    obtain ⟨xs, s, c, h2, h8, hd, hO, hE⟩ := Chains.draw_dims l hl
    have hR := Chains.dimsR_of xs h2 h8 hd
    have hlow := Chains.low_of xs hR
    have hx : xs.length ≤ 140737488351232 := by omega
    have hsz := hO.size
    have a1 := Chains.ans_ord hR hO
    obtain ⟨r, hr, hOr⟩ := Chains.chain_order xs hR
    have a2 := Chains.ans_ord hR hOr
    have a3 := Chains.ans_more hR hO
    have hleast := hO.least hlow h8 (by omega)
    rw [Nat.sub_zero] at hleast
    have hw : wrap64 ((xs.length : Int) - 2) = ((xs.length - 2 : Nat) : Int) := by rw [w64 (by omega) (by omega)]; omega
    refine Ev.bind hE ?_
    refine Ev.bind (Chains.impl_cost xs hx s) ?_
    refine Ev.bind hr ?_
    refine Ev.bind (Chains.impl_cost xs hx r) ?_
    refine Ev.bind (Chains.chain_cost xs hR) ?_
    simp only [if_pos (show s.size + 1 ≤ 9223372036854775807 by omega)]
    refine Ev.bind (Chains.impl_cost xs hx (s ++ (⟨#[41]⟩ : ByteArray))) ?_
    rw [a1, a2, a3, hw]
    simp only [if_true, Bool.false_eq_true, if_false, if_pos (show c ≥ (Chains.E xs 0 (xs.length - 1)).1 from hleast)]
    refine Ev.bind (Chains.chain_ways xs hR) ?_
    simp only [List.length_cons, List.length_nil]
    simp only [if_pos (show (0 : Int) ≤ ((xs.length - 2 : Nat) : Int) by omega), if_pos (show ((xs.length - 2 : Nat) : Int) < ((0 + 1 + 1 + 1 + 1 + 1 + 1 + 1 : Nat) : Int) by omega), if_pos (Chains.ways_table xs.length h2 h8)]
    refine Ev.bind (Chains.impl_dims xs hx) ?_
    rw [hR]
    exact Ev.now _
end Go.Proofs.YtokhjlaomgimmaaDoor.Pure
