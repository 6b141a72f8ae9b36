/- The law of the numbers: what is written is read back. -/
import Derived.Test.YtpcjbnglolfaaaaDoorQFnNumbersx5
import Derived.Test.YtpcjbnglolfaaaaDoorBackLib
import Derived.Test.YtpcjbnglolfaaaaDoorDrawLib
import Derived.Laws.BitsLemmas
namespace Go.Proofs.YtpcjbnglolfaaaaDoor.Pure
open Go.RowKit Go.Proofs.YtpcjbnglolfaaaaDoor.PFnNumbers Go.Proofs.YtpcjbnglolfaaaaDoorW.PrintWords Go.Proofs.YtpcjbnglolfaaaaDoorW.PrintLast Go.Proofs.YtpcjbnglolfaaaaDoor.Lib
set_option linter.unusedSimpArgs false
set_option linter.unusedVariables false
namespace Numbers
theorem byte_some (l : List Int) (hl : l.length ≤ 140737488351232) (i h : Int) (h0 : 0 ≤ i) (h1 : i ≤ l.length) :
    ∃ x i' h', spec_l01Byte.f l i h = some (x, i', h') ∧ 0 ≤ x ∧ x ≤ 255 ∧ 0 ≤ i' ∧ i' ≤ l.length := by
  unfold spec_l01Byte.f
  by_cases hi : i < (l.length : Int)
  · rw [if_pos hi, if_pos h0]
    refine ⟨_, _, _, rfl, (and255 _).1, (and255 _).2, ?_, ?_⟩
    · rw [w64 (by omega) (by omega)]
      omega
    · rw [w64 (by omega) (by omega)]
      omega
  · rw [if_neg hi]
    exact ⟨_, _, _, rfl, (and255 _).1, (and255 _).2, h0, h1⟩
theorem below_some (l : List Int) (hl : l.length ≤ 140737488351232) (i h : Int) (h0 : 0 ≤ i) (h1 : i ≤ l.length) (n : Int) (hn : 0 < n) :
    ∃ x i' h', spec_l01Below.f l i h n = some (x, i', h') ∧ 0 ≤ x ∧ x < n ∧ 0 ≤ i' ∧ i' ≤ l.length := by
  unfold spec_l01Below.f
  rw [if_neg (show ¬ n ≤ 0 by omega)]
  by_cases h2 : n ≤ 256
  · rw [if_pos h2]
    obtain ⟨x, i1, h1', e, x0, x1, g0, g1⟩ := byte_some l hl i h h0 h1
    rw [e]
    simp only [Option.bind_some, if_neg (show ¬ n = 0 by omega)]
    refine ⟨_, _, _, rfl, ?_, ?_, g0, g1⟩
    · rw [Int.tmod_eq_emod_of_nonneg x0]
      exact Int.emod_nonneg _ (by omega)
    · rw [Int.tmod_eq_emod_of_nonneg x0]
      exact Int.emod_lt_of_pos _ hn
  · rw [if_neg h2]
    obtain ⟨x, i1, t1, e1, x0, x1, g0, g1⟩ := byte_some l hl i h h0 h1
    obtain ⟨y, i2, t2, e2, y0, y1, g2, g3⟩ := byte_some l hl i1 t1 g0 g1
    obtain ⟨z, i3, t3, e3, z0, z1, g4, g5⟩ := byte_some l hl i2 t2 g2 g3
    obtain ⟨u, i4, t4, e4, u0, u1, g6, g7⟩ := byte_some l hl i3 t3 g4 g5
    rw [e1]
    simp only [Option.bind_some, e2, e3, e4, if_neg (show ¬ n = 0 by omega)]
    have s : 0 ≤ wrap64 (wrap64 (wrap64 (wrap64 (x * 16777216) + wrap64 (y * 65536)) + wrap64 (z * 256)) + u) := by
      rw [w64 (n := x * 16777216) (by omega) (by omega), w64 (n := y * 65536) (by omega) (by omega), w64 (n := x * 16777216 + y * 65536) (by omega) (by omega), w64 (n := z * 256) (by omega) (by omega), w64 (n := x * 16777216 + y * 65536 + z * 256) (by omega) (by omega), w64 (by omega) (by omega)]
      omega
    refine ⟨_, _, _, rfl, ?_, ?_, g6, g7⟩
    · rw [Int.tmod_eq_emod_of_nonneg s]
      exact Int.emod_nonneg _ (by omega)
    · rw [Int.tmod_eq_emod_of_nonneg s]
      exact Int.emod_lt_of_pos _ hn
theorem new_l0 (l : List Int) (hl : l.length ≤ 140737488351232) (n : Nat) : ∀ (h i : Int), 0 ≤ i → i + n = l.length → ∃ h', Ev (fun k => spec_l01New.l0 k l h i) (l, 0, h') := by
  induction n with
  | zero =>
    intro h i h0 hn
    refine ⟨h, ?_⟩
    refine Ev.step (fun k => spec_l01New.l0.eq_2 l h i k) ?_
    simp only [if_neg (show ¬ i < (l.length : Int) by omega)]
    exact Ev.now _
  | succ n ih =>
    intro h i h0 hn
    by_cases h4 : i < 4000
    · obtain ⟨h', H⟩ := ih (Go.bits .and .i64 (wrap64 ((wrap64 ((wrap64 (h * 131)) + (wrap64 (rd l i)))) + 7)) 1073741823) (i + 1) (by omega) (by omega)
      refine ⟨h', ?_⟩
      refine Ev.step (fun k => spec_l01New.l0.eq_2 l h i k) ?_
      simp only [if_pos (show i < (l.length : Int) by omega), if_pos h4, if_pos h0]
      rw [w64 (n := i + 1) (by omega) (by omega)]
      exact H
    · refine ⟨h, ?_⟩
      refine Ev.step (fun k => spec_l01New.l0.eq_2 l h i k) ?_
      simp only [if_pos (show i < (l.length : Int) by omega), if_neg h4]
      exact Ev.now _
theorem new_some (l : List Int) (hl : l.length ≤ 140737488351232) : ∃ h', Ev (fun k => spec_l01New.f k l) (l, 0, h') := by
  unfold spec_l01New.f
  exact new_l0 l hl l.length _ 0 (by omega) (by omega)
theorem text_l0 (l : List Int) (hl : l.length ≤ 140737488351232) (m : Int) (hm : m ≤ 5000) (n : Nat) : ∀ (xs : List Int) (j i h : Int), 0 ≤ j → xs.length = j → (m - j).toNat ≤ n → 0 ≤ i → i ≤ l.length → (j ≤ m ∨ j = 0) →
    ∃ s i' h', Ev (fun k => spec_l01Text.l0 k m xs j l i h) (s, i', h') ∧ ((s.size : Int) ≤ m ∨ s.size = 0) := by
  induction n with
  | zero =>
    intro xs j i h j0 hx hn i0 i1 hj
    refine ⟨strOfNums xs, i, h, ?_, ?_⟩
    · refine Ev.step (fun k => spec_l01Text.l0.eq_2 m xs j l i h k) ?_
      simp only [if_neg (show ¬ j < m by omega)]
      exact Ev.now _
    · rw [strOfNums_size]
      omega
  | succ n ih =>
    intro xs j i h j0 hx hn i0 i1 hj
    by_cases hlt : j < m
    · obtain ⟨x, i1', t1, e1, x0, x1, g0, g1⟩ := byte_some l hl i h i0 i1
      obtain ⟨s, i', h', H, hs⟩ := ih (xs ++ [x % 256]) (j + 1) i1' t1 (by omega) (by rw [List.length_append]; simp only [List.length_cons, List.length_nil]; omega) (by omega) g0 g1 (by omega)
      refine ⟨s, i', h', ?_, hs⟩
      refine Ev.step (fun k => spec_l01Text.l0.eq_2 m xs j l i h k) ?_
      simp only [if_pos hlt, e1, Option.bind_some, if_pos (show xs.length < 140737488355328 by omega)]
      rw [w64 (n := j + 1) (by omega) (by omega)]
      exact H
    · refine ⟨strOfNums xs, i, h, ?_, ?_⟩
      · refine Ev.step (fun k => spec_l01Text.l0.eq_2 m xs j l i h k) ?_
        simp only [if_neg hlt]
        exact Ev.now _
      · rw [strOfNums_size]
        omega
theorem text_some (l : List Int) (hl : l.length ≤ 140737488351232) (i h : Int) (h0 : 0 ≤ i) (h1 : i ≤ l.length) (m : Int) (m0 : 0 ≤ m) (hm : m ≤ 5000) :
    ∃ s i' h', Ev (fun k => spec_l01Text.f k l i h m) (s, i', h') ∧ (s.size : Int) ≤ m := by
  obtain ⟨s, i', h', H, hs⟩ := text_l0 l hl m hm m.toNat [] 0 i h (by omega) rfl (by omega) h0 h1 (.inr rfl)
  refine ⟨s, i', h', ?_, by omega⟩
  unfold spec_l01Text.f
  simp only [if_neg (show ¬ m > 5000 by omega)]
  refine Ev.step (fun k => spec_l01Text.j0.eq_2 m l i h k) ?_
  exact H
theorem pick_some (l : List Int) (hl : l.length ≤ 140737488351232) (i h : Int) (h0 : 0 ≤ i) (h1 : i ≤ l.length) (c : List Int) (hc : 0 < c.length) :
    ∃ x i' h', spec_l01PickInt.f l i h c = some (x, i', h') ∧ 0 ≤ i' ∧ i' ≤ l.length := by
  obtain ⟨x, i1, t1, e, x0, x1, g0, g1⟩ := below_some l hl i h h0 h1 (c.length : Int) (by omega)
  refine ⟨rd c x, i1, t1, ?_, g0, g1⟩
  unfold spec_l01PickInt.f
  rw [e]
  simp only [Option.bind_some, if_pos x0, if_pos x1]
theorem number_some (l : List Int) (hl : l.length ≤ 140737488351232) (i h : Int) (h0 : 0 ≤ i) (h1 : i ≤ l.length) : ∃ r, spec_l01Number.f l i h = some r := by
  obtain ⟨x, i1, t1, e, x0, x1, g0, g1⟩ := below_some l hl i h h0 h1 4 (by decide)
  unfold spec_l01Number.f
  rw [e]
  simp only [Option.bind_some]
  by_cases hx : x = 0
  · obtain ⟨y, i2, t2, e2, _, _⟩ := pick_some l hl i1 t1 g0 g1 [(-1), 0, 127, 128, 16383, 16384, 1000000000, 1000000001, 9223372036854775807, (-9223372036854775808)] (by decide)
    simp only [if_pos hx, e2, Option.bind_some]
    exact ⟨_, rfl⟩
  · by_cases hy : x = 1
    · obtain ⟨y, i2, t2, e2, _⟩ := below_some l hl i1 t1 g0 g1 1000000000 (by decide)
      simp only [if_neg hx, if_pos hy, e2, Option.bind_some]
      exact ⟨_, rfl⟩
    · obtain ⟨y, i2, t2, e2, _⟩ := below_some l hl i1 t1 g0 g1 400 (by decide)
      simp only [if_neg hx, if_neg hy, e2, Option.bind_some]
      exact ⟨_, rfl⟩
theorem draw_var (l : List Int) (hl : l.length ≤ 140737488351232) : ∃ n, Ev (fun k => spec_DrawVarText.f k l) n := by
  obtain ⟨h', H⟩ := new_some l hl
  obtain ⟨⟨x, y, z⟩, e⟩ := number_some l hl 0 h' (by omega) (by omega)
  refine ⟨x, ?_⟩
  unfold spec_DrawVarText.f
  refine Ev.bind H ?_
  simp only [e, Option.bind_some]
  exact Ev.now _
theorem long_l0 (m c : Int) (hm : m ≤ 100000) (n : Nat) : ∀ (xs : List Int) (j : Int), 0 ≤ j → (xs.length : Int) = m → j + n = m → ∃ s, Ev (fun k => spec_l01Long.l0 k m c xs j) s := by
  induction n with
  | zero =>
    intro xs j j0 hx hn
    refine ⟨strOfNums xs, ?_⟩
    refine Ev.step (fun k => spec_l01Long.l0.eq_2 m c xs j k) ?_
    simp only [if_neg (show ¬ j < m by omega)]
    exact Ev.now _
  | succ n ih =>
    intro xs j j0 hx hn
    obtain ⟨s, H⟩ := ih (xs.set j.toNat c) (j + 1) (by omega) (by rw [List.length_set]; exact hx) (by omega)
    refine ⟨s, ?_⟩
    refine Ev.step (fun k => spec_l01Long.l0.eq_2 m c xs j k) ?_
    simp only [if_pos (show j < m by omega), if_pos j0, if_pos (show j < (xs.length : Int) by omega), w64 (show -9223372036854775808 ≤ j + 1 by omega) (show j + 1 ≤ 9223372036854775807 by omega)]
    exact H
theorem long_some (m c : Int) (h0 : 0 ≤ m) (hm : m ≤ 100000) : ∃ s, Ev (fun k => spec_l01Long.f k m c) s := by
  obtain ⟨s, H⟩ := long_l0 m c hm m.toNat (List.replicate m.toNat 0) 0 (by omega) (by rw [List.length_replicate]; omega) (by omega)
  refine ⟨s, ?_⟩
  unfold spec_l01Long.f
  simp only [if_pos h0, if_pos (show m.toNat ≤ 281474976710656 by omega)]
  exact H
theorem draw_hex (l : List Int) (hl : l.length ≤ 140737488351232) : ∃ s, Ev (fun k => spec_DrawHex.f k l) s := by
  obtain ⟨h', H⟩ := new_some l hl
  obtain ⟨x, i1, t1, e, x0, x1, g0, g1⟩ := below_some l hl 0 h' (by omega) (by omega) 60 (by decide)
  have O : spec_l01Once.f l 0 h' 60 = some ((x == 0), i1, t1) := by
    unfold spec_l01Once.f
    rw [e]
    rfl
  unfold spec_DrawHex.f
  by_cases hx : (x == 0) = true
  · obtain ⟨y, i2, t2, e2, y0, y1, _⟩ := below_some l hl i1 t1 g0 g1 2 (by decide)
    obtain ⟨s, S⟩ := long_some (12000 + y) 200 (by omega) (by omega)
    refine ⟨s, ?_⟩
    refine Ev.bind H ?_
    simp only [O, Option.bind_some, if_pos hx, e2, w64 (show -9223372036854775808 ≤ 12000 + y by omega) (show 12000 + y ≤ 9223372036854775807 by omega)]
    refine Ev.bind S ?_
    exact Ev.now _
  · obtain ⟨y, i2, t2, e2, y0, y1, g2, g3⟩ := below_some l hl i1 t1 g0 g1 30 (by decide)
    obtain ⟨s, i3, t3, S, _⟩ := text_some l hl i2 t2 g2 g3 y y0 (by omega)
    refine ⟨s, ?_⟩
    refine Ev.bind H ?_
    simp only [O, Option.bind_some, if_neg hx, e2]
    refine Ev.bind S ?_
    exact Ev.now _
theorem impl_var_l0 (d : Nat) : ∀ (n : Nat) (l : List Int), n < 128 ^ (d + 1) → n ≤ 9223372036854775807 → l.length + d ≤ 1000 →
    Ev (fun k => impl_varText.l0 k (n : Int) l) (strOfNums (l ++ varB n)) := by
  induction d with
  | zero =>
    intro n l hn hb hl
    refine Ev.step (fun k => impl_varText.l0.eq_2 (n : Int) l k) ?_
    have hn' : n < 128 := by simpa using hn
    have hm : (n : Int) % 256 = n := by omega
    simp only [if_neg (show ¬ (n : Int) > 127 by omega), if_pos (show l.length < 140737488355328 by omega), varB_small hn', hm]
    exact Ev.now _
  | succ d ih =>
    intro n l hn hb hl
    refine Ev.step (fun k => impl_varText.l0.eq_2 (n : Int) l k) ?_
    by_cases h : n < 128
    · have hm : (n : Int) % 256 = n := by omega
      simp only [if_neg (show ¬ (n : Int) > 127 by omega), if_pos (show l.length < 140737488355328 by omega), varB_small h, hm]
      exact Ev.now _
    · have hq : n / 128 < 128 ^ (d + 1) := by
        rw [Nat.div_lt_iff_lt_mul (by decide)]
        rw [Nat.pow_succ] at hn
        exact hn
      have ht : Int.tmod (n : Int) 128 = ((n % 128 : Nat) : Int) := by
        rw [Int.tmod_eq_emod_of_nonneg (by omega)]
        omega
      have hdv : wrap64 (Int.tdiv (n : Int) 128) = ((n / 128 : Nat) : Int) := by
        rw [Int.tdiv_eq_ediv_of_nonneg (by omega)]
        unfold wrap64
        omega
      have hby : wrap64 (128 + ((n % 128 : Nat) : Int)) % 256 = ((n % 128 + 128 : Nat) : Int) := by
        unfold wrap64
        omega
      simp only [if_pos (show (n : Int) > 127 by omega), if_pos (show l.length < 140737488355328 by omega), varB_great h, ht, hdv, hby]
      have := ih (n / 128) (l ++ [((n % 128 + 128 : Nat) : Int)]) hq (by omega) (by simp only [List.length_append, List.length_cons, List.length_nil]; omega)
      simpa only [List.append_assoc, List.cons_append, List.nil_append] using this
theorem impl_var (n : Nat) (hn : n ≤ 9223372036854775807) : Ev (fun k => impl_varText.f k (n : Int)) (strOfNums (varB n)) := by
  unfold impl_varText.f
  exact impl_var_l0 9 n [] (Nat.lt_of_le_of_lt hn (by decide)) hn (by decide)
theorem pow128 (i : Nat) (h : i ≤ 4) : (128 : Int) ^ i ≤ 268435456 ∧ 1 ≤ (128 : Int) ^ i := by
  have h' : i = 0 ∨ i = 1 ∨ i = 2 ∨ i = 3 ∨ i = 4 := by omega
  rcases h' with rfl | rfl | rfl | rfl | rfl <;> decide
theorem steps {c v u : Int} (c0 : 0 ≤ c) (c1 : c < 256) (v0 : 0 ≤ v) (v1 : v < u) (u1 : u ≤ 268435456) :
    wrap64 c = c ∧ Int.tmod c 128 = c % 128 ∧ wrap64 (c % 128 * u) = c % 128 * u ∧ wrap64 (v + c % 128 * u) = v + c % 128 * u ∧ wrap64 (u * 128) = u * 128 := by
  have q0 : 0 ≤ c % 128 * u := Int.mul_nonneg (by omega) (by omega)
  have q1 : c % 128 * u ≤ 127 * u := Int.mul_le_mul_of_nonneg_right (by omega) (by omega)
  refine ⟨w64 (by omega) (by omega), Int.tmod_eq_emod_of_nonneg c0, w64 (by omega) (by omega), w64 (by omega) (by omega), w64 (by omega) (by omega)⟩
theorem next_val {c v u : Int} (v0 : 0 ≤ v) (v1 : v < u) : 0 ≤ v + c % 128 * u ∧ v + c % 128 * u < u * 128 := by
  have q0 : 0 ≤ c % 128 * u := Int.mul_nonneg (by omega) (by omega)
  have q1 : c % 128 * u ≤ 127 * u := Int.mul_le_mul_of_nonneg_right (by omega) (by omega)
  omega
theorem split_val (v u : Int) (m : Nat) : v + (m : Int) * u = v + ((m % 128 : Nat) : Int) * u + ((m / 128 : Nat) : Int) * (u * 128) := by
  have h : (m : Int) = 128 * ((m / 128 : Nat) : Int) + ((m % 128 : Nat) : Int) := by omega
  have h2 : (m : Int) * u = ((m % 128 : Nat) : Int) * u + ((m / 128 : Nat) : Int) * (u * 128) := by
    conv => lhs; rw [h, Int.add_mul]
    rw [Int.mul_comm 128 ((m / 128 : Nat) : Int), Int.mul_assoc, Int.mul_comm 128 u, Int.add_comm]
  rw [h2]
  omega
theorem small_facts {m : Nat} (h : m < 128) : (0 : Int) ≤ (m : Int) ∧ (m : Int) < 256 ∧ (m : Int) % 128 = (m : Int) := by omega
theorem great_facts (m : Nat) : (0 : Int) ≤ ((m % 128 + 128 : Nat) : Int) ∧ ((m % 128 + 128 : Nat) : Int) < 256 ∧ ((m % 128 + 128 : Nat) : Int) % 128 = ((m % 128 : Nat) : Int) ∧ ((m % 128 + 128 : Nat) : Int) ≥ 128 := by omega
theorem idx_facts {S a i L : Nat} (hs : S ≤ 1000000) (hL : 0 < L) (hi5 : i + L ≤ 5) (hsz : a + i + L ≤ S) :
    (i : Int) < 5 ∧ wrap64 ((a : Int) + (i : Int)) = ((a + i : Nat) : Int) ∧ (0 : Int) ≤ ((a + i : Nat) : Int) ∧ ((a + i : Nat) : Int) < (S : Int) ∧ wrap64 (((a + i : Nat) : Int) + 1) = ((a + i + 1 : Nat) : Int) ∧ wrap64 ((i : Int) + 1) = ((i + 1 : Nat) : Int) ∧ i ≤ 4 := by
  refine ⟨by omega, ?_, by omega, by omega, ?_, ?_, by omega⟩
  · rw [w64 (by omega) (by omega)]
    omega
  · rw [w64 (by omega) (by omega)]
    omega
  · rw [w64 (by omega) (by omega)]
    omega
theorem step_facts {S a i L L' m : Nat} (h : ¬ m < 128) (hl : L = L' + 1) (hi5 : i + L ≤ 5) (hsz : a + i + L ≤ S) :
    m / 128 < m ∧ i + 1 + L' ≤ 5 ∧ a + (i + 1) + L' ≤ S ∧ 0 < m / 128 ∧ a + (i + 1) + L' = a + i + L := by
  refine ⟨by omega, by omega, by omega, by omega, by omega⟩
theorem idx_shift (a i j : Nat) : a + i + (j + 1) = a + (i + 1) + j := by omega
theorem read_back (s : ByteArray) (hs : s.size ≤ 1000000) (a : Nat) (m : Nat) : ∀ (i : Nat) (v u : Int), u = 128 ^ i → i + (varB m).length ≤ 5 → a + i + (varB m).length ≤ s.size →
    (∀ (j : Nat) (hj : j < (varB m).length), bt s ((a + i + j : Nat) : Int) = (varB m)[j]) → (0 < i → 0 < m) → 0 ≤ v → v < u → v + (m : Int) * u ≤ 1000000000 →
    Ev (fun k => impl_ReadVar.l0 k s (a : Int) v u (i : Int)) (v + (m : Int) * u, ((a + i + (varB m).length : Nat) : Int), true) := by
  induction m using Nat.strongRecOn with
  | ind m ih =>
    intro i v u hu hi5 hsz hb hpos v0 v1 hle
    have hlp := varB_length_pos m
    obtain ⟨g3, hwi, g2, g1, e6, e7, hi4⟩ := idx_facts hs hlp hi5 hsz
    have gp : i = 0 ∨ ¬ (m : Int) = 0 := (Nat.eq_zero_or_pos i).imp id (fun h => Int.ofNat_ne_zero.2 (Nat.pos_iff_ne_zero.1 (hpos h)))
    obtain ⟨p1, p2⟩ := pow128 i hi4
    rw [← hu] at p1 p2
    have hb0 := hb 0 hlp
    simp only [Nat.add_zero] at hb0
    by_cases h : m < 128
    · have hc : bt s ((a + i : Nat) : Int) = (m : Int) := by
        rw [hb0]
        simp only [varB_small h, List.getElem_cons_zero]
      have hl1 : (varB m).length = 1 := by rw [varB_small h, List.length_singleton]
      obtain ⟨e1, e2, e3, e4, e5⟩ := steps (c := (m : Int)) (small_facts h).1 (small_facts h).2.1 v0 v1 p1
      have hm : (m : Int) % 128 = (m : Int) := (small_facts h).2.2
      rw [hm] at e2 e3 e4
      have hg : ¬ v + (m : Int) * u > 1000000000 := Int.not_lt.2 hle
      rw [hl1]
      refine Ev.step (fun k => impl_ReadVar.l0.eq_2 s (a : Int) _ _ _ k) ?_
      simp only [if_pos g3, hwi, decide_eq_true g1]
      refine Ev.step (fun k => impl_ReadVar.j2.eq_2 s (a : Int) _ _ _ true k) ?_
      have hlt : ¬ (m : Int) ≥ 128 := by
        have h' : m < 128 := h
        exact Int.not_le.2 (by exact_mod_cast h')
      simp only [if_true, hwi, if_pos g2, if_pos g1, hc, e1, if_neg hlt, e2, e3, e4, e6, if_neg hg]
      by_cases hz : (m : Int) = 0
      · have hi0 : i = 0 := gp.resolve_right (fun hh => hh hz)
        subst hi0
        simp only [if_pos hz, if_neg (show ¬ ((0 : Nat) : Int) > 0 by decide)]
        exact Ev.now _
      · simp only [if_neg hz]
        exact Ev.now _
    · have hv : varB m = ((m % 128 + 128 : Nat) : Int) :: varB (m / 128) := varB_great h
      have hlen : (varB m).length = (varB (m / 128)).length + 1 := by rw [hv, List.length_cons]
      have hc : bt s ((a + i : Nat) : Int) = ((m % 128 + 128 : Nat) : Int) := by
        rw [hb0]
        simp only [hv, List.getElem_cons_zero]
      obtain ⟨e1, e2, e3, e4, e5⟩ := steps (c := ((m % 128 + 128 : Nat) : Int)) (great_facts m).1 (great_facts m).2.1 v0 v1 p1
      have nv := next_val (c := ((m % 128 + 128 : Nat) : Int)) v0 v1
      have hm : ((m % 128 + 128 : Nat) : Int) % 128 = ((m % 128 : Nat) : Int) := (great_facts m).2.2.1
      rw [hm] at e2 e3 e4 nv
      have hsv := split_val v u m
      obtain ⟨q1, q2, q3, q4, q5⟩ := step_facts h hlen hi5 hsz
      have IH := ih (m / 128) q1 (i + 1) (v + ((m % 128 : Nat) : Int) * u) (u * 128) (by rw [Int.pow_succ, ← hu]) q2 q3
        (fun j hj => by
          have hj' := hb (j + 1) (by rw [hlen]; exact Nat.succ_lt_succ hj)
          rw [show a + i + (j + 1) = a + (i + 1) + j from idx_shift a i j] at hj'
          rw [hj']
          simp only [hv, List.getElem_cons_succ])
        (fun _ => q4) nv.1 nv.2 (by rw [← hsv]; exact hle)
      rw [← hsv, q5] at IH
      have hge : ((m % 128 + 128 : Nat) : Int) ≥ 128 := (great_facts m).2.2.2
      refine Ev.step (fun k => impl_ReadVar.l0.eq_2 s (a : Int) _ _ _ k) ?_
      simp only [if_pos g3, hwi, decide_eq_true g1]
      refine Ev.step (fun k => impl_ReadVar.j2.eq_2 s (a : Int) _ _ _ true k) ?_
      simp only [if_true, hwi, if_pos g2, if_pos g1, hc, e1, if_pos hge, e2, e3, e4, e5, e7]
      exact IH
theorem read_var (s : ByteArray) (hs : s.size ≤ 1000000) (a m : Nat) (hm : m ≤ 1000000000) (hsz : a + (varB m).length ≤ s.size)
    (hb : ∀ (j : Nat) (hj : j < (varB m).length), bt s ((a + j : Nat) : Int) = (varB m)[j]) :
    Ev (fun k => impl_ReadVar.f k s (a : Int)) ((m : Int), ((a + (varB m).length : Nat) : Int), true) := by
  have hl := varB_length 4 m (by omega)
  unfold impl_ReadVar.f
  simp only [if_neg (show ¬ (a : Int) < 0 by omega), decide_eq_false (show ¬ (a : Int) > (s.size : Int) by omega)]
  refine Ev.step (fun k => impl_ReadVar.j0.eq_2 s (a : Int) false k) ?_
  simp only [Bool.false_eq_true, if_false]
  have h := read_back s hs a m 0 0 1 rfl (by omega) (by omega) (by simpa using hb) (by omega) (by omega) (by decide) (by simp only [Int.mul_one, Int.zero_add]; omega)
  simpa using h
/-- The figure of a number below 16. -/
def fig (x : Int) : Int := if x < 10 then 48 + x else 87 + x
def hexL (s : ByteArray) : Nat → Int → List Int
  | 0, _ => []
  | n + 1, i => fig (bt s i / 16) :: fig (bt s i % 16) :: hexL s n (i + 1)
def digits : ByteArray := ⟨#[48, 49, 50, 51, 52, 53, 54, 55, 56, 57, 97, 98, 99, 100, 101, 102]⟩
theorem digits_fin : ∀ j : Fin 16, bt digits ((j.val : Nat) : Int) = fig ((j.val : Nat) : Int) := by decide +kernel
theorem digits_at (x : Int) (h0 : 0 ≤ x) (h1 : x < 16) : bt digits x = fig x := by
  obtain ⟨n, rfl⟩ := Int.eq_ofNat_of_zero_le h0
  exact digits_fin ⟨n, by omega⟩
theorem digits_size : (digits.size : Int) = 16 := rfl
theorem impl_hex_l0 (s : ByteArray) (hs : s.size ≤ 1048576) (n : Nat) : ∀ (i : Int) (l : List Int), 0 ≤ i → i + n = s.size → l.length = 2 * i → Ev (fun k => impl_Hex.l0 k s digits l i) (strOfNums (l ++ hexL s n i), true) := by
  induction n with
  | zero =>
    intro i l h0 hn hl
    refine Ev.step (fun k => impl_Hex.l0.eq_2 s digits l i k) ?_
    simp only [if_neg (show ¬ i < (s.size : Int) by omega), hexL, List.append_nil]
    exact Ev.now _
  | succ n ih =>
    intro i l h0 hn hl
    obtain ⟨c0, c1⟩ := bt_lt s i
    have e1 : Go.bits .and .u8 (bt s i) 15 = bt s i % 16 := u8_and15 _ c0 c1
    refine Ev.step (fun k => impl_Hex.l0.eq_2 s digits l i k) ?_
    simp only [if_pos (show i < (s.size : Int) by omega), if_pos h0, e1, digits_size, if_pos (show 0 ≤ bt s i / 16 by omega), if_pos (show bt s i / 16 < 16 by omega), if_pos (show 0 ≤ bt s i % 16 by omega), if_pos (show bt s i % 16 < 16 by omega), digits_at (bt s i / 16) (by omega) (by omega), digits_at (bt s i % 16) (by omega) (by omega), Option.bind_some, List.length_cons, List.length_nil,
      if_pos (show l.length + (0 + 1 + 1) < 140737488355328 by omega), w64 (show -9223372036854775808 ≤ i + 1 by omega) (show i + 1 ≤ 9223372036854775807 by omega)]
    have := ih (i + 1) (l ++ [fig (bt s i / 16), fig (bt s i % 16)]) (by omega) (by omega) (by simp only [List.length_append, List.length_cons, List.length_nil]; omega)
    simpa only [hexL, List.append_assoc, List.cons_append, List.nil_append] using this
/-- What a figure is worth; -1 where it is none. -/
def valOf (c : Int) : Int := if 48 ≤ c ∧ c ≤ 57 then c - 48 else if 97 ≤ c ∧ c ≤ 102 then c - 87 else -1
theorem valOf_range (c : Int) : -1 ≤ valOf c ∧ valOf c < 16 := by
  unfold valOf
  split
  · omega
  · split <;> omega
theorem index_fin : ∀ j : Fin 256, Lib.indexByte (⟨#[48, 49, 50, 51, 52, 53, 54, 55, 56, 57, 97, 98, 99, 100, 101, 102]⟩ : ByteArray).data.toList (((j.val : Nat) : Int).toNat.toUInt8) = valOf ((j.val : Nat) : Int) := by decide +kernel
theorem impl_value (c : Int) (h0 : 0 ≤ c) (h1 : c < 256) : strings_IndexByte.f (⟨#[48, 49, 50, 51, 52, 53, 54, 55, 56, 57, 97, 98, 99, 100, 101, 102]⟩ : ByteArray) c = some (valOf c) := by
  obtain ⟨n, rfl⟩ := Int.eq_ofNat_of_zero_le h0
  unfold strings_IndexByte.f
  rw [index_fin ⟨n, by omega⟩]
theorem impl_hex (s : ByteArray) (hs : s.size ≤ 12000) : Ev (fun k => impl_Hex.f k s) (strOfNums (hexL s s.size 0), true) := by
  unfold impl_Hex.f
  simp only [if_neg (show ¬ (s.size : Int) > 12000 by omega)]
  exact impl_hex_l0 s (by omega) s.size 0 [] (by omega) (by omega) rfl
theorem fig_range (x : Int) (h0 : 0 ≤ x) (h1 : x < 16) : 0 ≤ fig x ∧ fig x < 256 := by
  unfold fig
  split <;> omega
theorem val_fig (x : Int) (h0 : 0 ≤ x) (h1 : x < 16) : valOf (fig x) = x := by
  unfold valOf fig
  split
  · rw [if_pos (by omega)]
    omega
  · rw [if_neg (by omega), if_pos (by omega)]
    omega
theorem hexL_length (s : ByteArray) : ∀ (n : Nat) (i : Int), (hexL s n i).length = 2 * n
  | 0, _ => rfl
  | n + 1, i => by
    simp only [hexL, List.length_cons, hexL_length s n (i + 1)]
    omega
theorem hexL_range (s : ByteArray) : ∀ (n : Nat) (i : Int), ∀ b ∈ hexL s n i, 0 ≤ b ∧ b < 256
  | 0, _ => by simp [hexL]
  | n + 1, i => by
    intro b hb
    obtain ⟨c0, c1⟩ := bt_lt s i
    simp only [hexL, List.mem_cons] at hb
    rcases hb with rfl | rfl | hb
    · exact fig_range _ (by omega) (by omega)
    · exact fig_range _ (by omega) (by omega)
    · exact hexL_range s n (i + 1) b hb
theorem hexL_get (s : ByteArray) : ∀ (n : Nat) (i : Int) (j : Nat), j < n → (hexL s n i)[2 * j]? = some (fig (bt s (i + j) / 16)) ∧ (hexL s n i)[2 * j + 1]? = some (fig (bt s (i + j) % 16))
  | 0, _, _, h => absurd h (Nat.not_lt_zero _)
  | n + 1, i, 0, _ => by simp [hexL]
  | n + 1, i, j + 1, h => by
    obtain ⟨a, b⟩ := hexL_get s n (i + 1) j (by omega)
    have e : i + 1 + (j : Int) = i + ((j + 1 : Nat) : Int) := by omega
    rw [e] at a b
    rw [show 2 * (j + 1) = 2 * j + 1 + 1 by omega]
    simp only [hexL, List.getElem?_cons_succ]
    exact ⟨a, b⟩
theorem join16b (h l : Int) (h0 : 0 ≤ h) (h1 : h < 16) (l0 : 0 ≤ l) (l1 : l < 16) : Go.bits .or .i64 (wrap64 (h * 16)) l = 16 * h + l := by
  rw [w64 (n := h * 16) (by omega) (by omega),
    bits_join .i64 8 (by decide) (fun n h0 h1 => by rw [IntKind.wrap_i64]; omega) 4 (h * 16) l (by omega) (by omega) (by omega) l0 (by omega) (by omega)]
  omega
theorem unhex_back_l0 (s : ByteArray) (hs : s.size ≤ 10000) (h : ByteArray) (hz : h.size = 2 * s.size) (hb : ∀ j : Nat, j < s.size → bt h ((2 * j : Nat) : Int) = fig (bt s (j : Int) / 16) ∧ bt h ((2 * j + 1 : Nat) : Int) = fig (bt s (j : Int) % 16)) (n : Nat) :
    ∀ i : Nat, i + n = s.size → Ev (fun k => impl_Unhex.l0 k h (pref s 0 i) ((2 * i : Nat) : Int)) (s, true) := by
  induction n with
  | zero =>
    intro i hi
    refine Ev.step (fun k => impl_Unhex.l0.eq_2 h (pref s 0 i) _ k) ?_
    simp only [if_neg (show ¬ ((2 * i : Nat) : Int) < (h.size : Int) by omega)]
    have e : strOfNums (pref s 0 i) = s := by
      apply ba_ext
      have hr : ∀ b ∈ pref s 0 i, 0 ≤ b ∧ b < 256 := by
        intro b hb'
        unfold pref at hb'
        obtain ⟨j, _, rfl⟩ := List.mem_map.1 hb'
        exact bt_lt _ _
      rw [nums_eq _ hr]
      have := ints_ext s 0 i (by omega)
      rw [← this]
      congr 1
      rw [ext_list, List.drop_zero]
      rw [List.take_of_length_le]
      rw [← size_list]
      omega
    rw [e]
    exact Ev.now _
  | succ n ih =>
    intro i hi
    obtain ⟨b1, b2⟩ := hb i (by omega)
    obtain ⟨c0, c1⟩ := bt_lt s (i : Int)
    obtain ⟨f0, f1⟩ := fig_range (bt s (i : Int) / 16) (by omega) (by omega)
    obtain ⟨f2, f3⟩ := fig_range (bt s (i : Int) % 16) (by omega) (by omega)
    have g1 : ((2 * i : Nat) : Int) < (h.size : Int) := by omega
    have g2 : ((2 * i + 1 : Nat) : Int) < (h.size : Int) := by omega
    have g3 : (0 : Int) ≤ ((2 * i + 1 : Nat) : Int) := by omega
    have g5 : (0 : Int) ≤ ((2 * i : Nat) : Int) := by omega
    have g4 : (pref s 0 i).length < 140737488355328 := by
      rw [pref_length]
      omega
    have e1 : wrap64 (((2 * i : Nat) : Int) + 1) = ((2 * i + 1 : Nat) : Int) := by
      rw [w64 (by omega) (by omega)]
      omega
    have e2 : wrap64 (((2 * i : Nat) : Int) + 2) = ((2 * (i + 1) : Nat) : Int) := by
      rw [w64 (by omega) (by omega)]
      omega
    have e3 : (16 * (bt s (i : Int) / 16) + bt s (i : Int) % 16) % 256 = bt s (i : Int) := by omega
    refine Ev.step (fun k => impl_Unhex.l0.eq_2 h (pref s 0 i) _ k) ?_
    simp only [if_pos g1, if_pos g5, e1, e2, b1, b2, impl_value _ f0 f1, impl_value _ f2 f3, Option.bind_some, if_pos g3, if_pos g2, if_pos g4,
      val_fig (bt s (i : Int) / 16) (by omega) (by omega), val_fig (bt s (i : Int) % 16) (by omega) (by omega),
      if_neg (show ¬ bt s (i : Int) / 16 < 0 by omega), if_neg (show ¬ bt s (i : Int) % 16 < 0 by omega),
      join16b (bt s (i : Int) / 16) (bt s (i : Int) % 16) (by omega) (by omega) (by omega) (by omega), e3]
    have := ih (i + 1) (by omega)
    rw [pref_succ, Nat.zero_add] at this
    exact this
theorem unhex_back (s : ByteArray) (hs : s.size ≤ 300) : Ev (fun k => impl_Unhex.f k (strOfNums (hexL s s.size 0))) (s, true) := by
  have hz : (strOfNums (hexL s s.size 0)).size = 2 * s.size := by rw [strOfNums_size, hexL_length]
  have hb : ∀ j : Nat, j < s.size → bt (strOfNums (hexL s s.size 0)) ((2 * j : Nat) : Int) = fig (bt s (j : Int) / 16) ∧ bt (strOfNums (hexL s s.size 0)) ((2 * j + 1 : Nat) : Int) = fig (bt s (j : Int) % 16) := by
    intro j hj
    have hl := hexL_length s s.size 0
    obtain ⟨a, b⟩ := hexL_get s s.size 0 j hj
    rw [Int.zero_add] at a b
    constructor
    · rw [bt_nums _ (hexL_range s s.size 0) (2 * j) (by omega)]
      rw [List.getElem?_eq_getElem (by omega)] at a
      exact Option.some.inj a
    · rw [bt_nums _ (hexL_range s s.size 0) (2 * j + 1) (by omega)]
      rw [List.getElem?_eq_getElem (by omega)] at b
      exact Option.some.inj b
  have hbase := unhex_back_l0 s (by omega) _ hz hb s.size 0 (by omega)
  generalize strOfNums (hexL s s.size 0) = h at hz hb hbase
  unfold impl_Unhex.f
  simp only [if_pos (show h.size ≤ 1048576 by omega)]
  unfold impl_Unhex.f0
  simp only [if_pos (show (h.size : Int) % 2 = 0 by omega), decide_eq_false (show ¬ (h.size : Int) > 24000 by omega)]
  refine Ev.step (fun k => impl_Unhex.j0.eq_2 h false k) ?_
  simp only [Bool.false_eq_true, if_false]
  exact hbase
/-- What figures come to. -/
def fval (l : List UInt8) : Nat := l.foldl (fun v c => 10 * v + (c.toNat - 48)) 0
theorem fval_snoc (l : List UInt8) (c : UInt8) : fval (l ++ [c]) = 10 * fval l + (c.toNat - 48) := by
  unfold fval
  rw [List.foldl_append]
  rfl
theorem fval_le (p q : List UInt8) : fval p ≤ fval (p ++ q) := by
  unfold fval
  rw [List.foldl_append]
  generalize p.foldl (fun v c => 10 * v + (c.toNat - 48)) 0 = v
  induction q generalizing v with
  | nil => exact Nat.le_refl _
  | cons c q ih =>
    rw [List.foldl_cons]
    exact Nat.le_trans (by omega) (ih _)
theorem fig_toNat (x : Nat) (h : x < 10) : (UInt8.ofNat (48 + x)).toNat = 48 + x := UInt8.toNat_ofNat_of_lt' (show 48 + x < 256 by omega)
theorem dec_facts (d : Nat) : ∀ m : Nat, m < 10 ^ (d + 1) → fval (Lib.decDigits m) = m ∧ (∀ c ∈ Lib.decDigits m, 48 ≤ c.toNat ∧ c.toNat ≤ 57) ∧ (Lib.decDigits m).length ≤ d + 1 ∧ 0 < (Lib.decDigits m).length := by
  have small : ∀ m, m < 10 → fval (Lib.decDigits m) = m ∧ (∀ c ∈ Lib.decDigits m, 48 ≤ c.toNat ∧ c.toNat ≤ 57) ∧ (Lib.decDigits m).length = 1 := by
    intro m h
    rw [Lib.decDigits, dif_pos h]
    refine ⟨?_, ?_, rfl⟩
    · unfold fval
      simp only [List.foldl_cons, List.foldl_nil, fig_toNat m h]
      omega
    · intro c hc
      rw [List.mem_singleton.1 hc, fig_toNat m h]
      omega
  induction d with
  | zero =>
    intro m hm
    obtain ⟨a, b, c⟩ := small m (by simpa using hm)
    exact ⟨a, b, by omega, by omega⟩
  | succ d ih =>
    intro m hm
    by_cases h : m < 10
    · obtain ⟨a, b, c⟩ := small m h
      exact ⟨a, b, by omega, by omega⟩
    · have hq : m / 10 < 10 ^ (d + 1) := by
        rw [Nat.div_lt_iff_lt_mul (by decide)]
        rw [Nat.pow_succ] at hm
        exact hm
      obtain ⟨a, b, c, e⟩ := ih (m / 10) hq
      rw [Lib.decDigits, dif_neg h]
      refine ⟨?_, ?_, ?_, ?_⟩
      · rw [fval_snoc, a, fig_toNat _ (Nat.mod_lt _ (by decide))]
        clear hm hq
        omega
      · intro x hx
        rcases List.mem_append.1 hx with hx | hx
        · exact b x hx
        · rw [List.mem_singleton.1 hx, fig_toNat _ (Nat.mod_lt _ (by decide))]
          clear hm hq
          omega
      · rw [List.length_append]
        exact Nat.add_le_add_right c 1
      · rw [List.length_append]
        exact Nat.succ_pos _
theorem impl_dec (m : Nat) (hm : m ≤ 1000000000) : impl_Decimal.f (m : Int) = some ⟨(Lib.decDigits m).toArray⟩ := by
  have e : Lib.itoa (m : Int) = Lib.decDigits m := by
    unfold Lib.itoa
    rw [if_neg (by omega), Int.toNat_natCast]
  unfold impl_Decimal.f strconv_Itoa_18.f itoaF
  rw [if_pos (by omega), e]
  rfl
theorem dec_back_l0 (s : ByteArray) (m : Nat) (hm : m ≤ 1000000000) (hs : s.toList = Lib.decDigits m) (q : List UInt8) : ∀ p : List UInt8, s.toList = p ++ q →
    Ev (fun k => impl_ReadDecimal.l0 k s ((fval p : Nat) : Int) ((p.length : Nat) : Int)) ((m : Int), true) := by
  obtain ⟨a, b, c, _⟩ := dec_facts 9 m (Nat.lt_of_le_of_lt hm (by decide))
  have hz : s.size = s.toList.length := size_list s
  induction q with
  | nil =>
    intro p hp
    rw [List.append_nil] at hp
    have e : fval p = m := by rw [← hp, hs, a]
    have e2 : p.length = s.size := by rw [hz, hp]
    refine Ev.step (fun k => impl_ReadDecimal.l0.eq_2 s _ _ k) ?_
    rw [e]
    have hd := impl_dec m hm
    have hl : (⟨(Lib.decDigits m).toArray⟩ : ByteArray).toList = s.toList := by rw [mk_list, hs]
    simp only [if_neg (show ¬ ((p.length : Nat) : Int) < (s.size : Int) by omega), if_neg (show ¬ (m : Int) > 1000000000 by omega), hd, Option.bind_some, if_pos hl]
    exact Ev.now _
  | cons x q ih =>
    intro p hp
    have hlt : p.length < s.size := by
      rw [hz, hp, List.length_append, List.length_cons]
      omega
    have hle : fval p ≤ m := by
      have := fval_le p (x :: q)
      rw [← hp, hs, a] at this
      exact this
    have hle2 : s.size ≤ 10 := by
      rw [hz, hs]
      exact c
    obtain ⟨x0, x1⟩ := b x (by rw [← hs, hp]; simp)
    have hx : bt s ((p.length : Nat) : Int) = (x.toNat : Int) := by
      rw [bt_list, hp, List.getD_eq_getElem?_getD]
      simp
    have IH := ih (p ++ [x]) (by rw [hp, List.append_assoc]; rfl)
    rw [fval_snoc, List.length_append] at IH
    have g1 : ((p.length : Nat) : Int) < (s.size : Int) := by omega
    have g2 : (0 : Int) ≤ ((p.length : Nat) : Int) := by omega
    have g3 : ¬ (x.toNat : Int) < 48 := by omega
    have g4 : ¬ (x.toNat : Int) > 57 := by omega
    have e1 : wrap64 (wrap64 (((fval p : Nat) : Int) * 10) + ((x.toNat : Int) - 48) % 256) = ((10 * fval p + (x.toNat - 48) : Nat) : Int) := by
      rw [w64 (n := ((fval p : Nat) : Int) * 10) (by omega) (by omega), w64 (by omega) (by omega)]
      omega
    have e2 : wrap64 (((p.length : Nat) : Int) + 1) = ((p.length + [x].length : Nat) : Int) := by
      rw [w64 (by omega) (by omega), List.length_singleton]
      omega
    refine Ev.step (fun k => impl_ReadDecimal.l0.eq_2 s _ _ k) ?_
    simp only [if_pos g1, if_pos g2, hx, if_neg g3, if_neg g4, e1, e2]
    exact IH
theorem dec_back (m : Nat) (hm : m ≤ 1000000000) : Ev (fun k => impl_ReadDecimal.f k ⟨(Lib.decDigits m).toArray⟩) ((m : Int), true) := by
  obtain ⟨_, _, c, e⟩ := dec_facts 9 m (Nat.lt_of_le_of_lt hm (by decide))
  have hs : (⟨(Lib.decDigits m).toArray⟩ : ByteArray).toList = Lib.decDigits m := mk_list _
  have hz : (⟨(Lib.decDigits m).toArray⟩ : ByteArray).size = (Lib.decDigits m).length := size_mk (Lib.decDigits m)
  generalize (⟨(Lib.decDigits m).toArray⟩ : ByteArray) = s at hs hz
  have hl := dec_back_l0 s m hm hs (Lib.decDigits m) [] hs
  unfold impl_ReadDecimal.f
  simp only [if_neg (show ¬ (s.size : Int) = 0 by omega), decide_eq_false (show ¬ (s.size : Int) > 10 by omega)]
  refine Ev.step (fun k => impl_ReadDecimal.j0.eq_2 s false k) ?_
  simp only [Bool.false_eq_true, if_false]
  exact hl
theorem var_len (n : Nat) (hn : n ≤ 1000000000) : (varB n).length ≤ 5 := varB_length 4 n (by omega)
theorem j2_true (n : Int) (t : ByteArray) (x : ByteArray) (hx : x.size ≤ 300) (c : Int) (hc : c = wrap64 ((t.size : Int) + 1)) :
    Ev (fun k => laws_FnNumbers.j2 k n t true n c true n true x) true := by
  have hl := var_len x.size (by omega)
  have hz : (strOfNums (varB x.size)).size = (varB x.size).length := strOfNums_size _
  have hS : Ev (fun k => impl_ShortText.f k x) (strOfNums (varB x.size) ++ x, true) := by
    unfold impl_ShortText.f
    simp only [if_neg (show ¬ (x.size : Int) > 12000 by omega)]
    refine Ev.bind (impl_var x.size (by omega)) ?_
    simp only [if_pos (show (strOfNums (varB x.size)).size + x.size ≤ 9223372036854775807 by omega)]
    exact Ev.now _
  have hsz : (strOfNums (varB x.size) ++ x).size = (varB x.size).length + x.size := by rw [size_append, hz]
  have hR : Ev (fun k => impl_ReadShort.f k (strOfNums (varB x.size) ++ x) 0) (x, ((strOfNums (varB x.size) ++ x).size : Int), true) := by
    have hV := read_var (strOfNums (varB x.size) ++ x) (by omega) 0 x.size (by omega) (by omega) (by
      intro j hj
      rw [Nat.zero_add, bt_left _ _ _ (by omega)]
      exact bt_nums _ (varB_range _) j hj)
    have hext : (strOfNums (varB x.size) ++ x).extract (varB x.size).length ((varB x.size).length + x.size) = x := by
      rw [← hz]
      exact ext_right _ _ _ rfl
    rw [hsz]
    have q1 : wrap64 ((((varB x.size).length + x.size : Nat) : Int) - (((varB x.size).length : Nat) : Int)) = (x.size : Int) := by
      rw [w64 (by omega) (by omega)]
      omega
    have q2 : wrap64 ((((varB x.size).length : Nat) : Int) + (x.size : Int)) = (((varB x.size).length + x.size : Nat) : Int) := by
      rw [w64 (by omega) (by omega)]
      omega
    unfold impl_ReadShort.f
    simp only [Nat.zero_add] at hV
    refine Ev.bind hV ?_
    clear hV
    simp only [if_true, hsz, q1, q2, if_neg (show ¬ (x.size : Int) > 12000 by omega), if_neg (show ¬ (x.size : Int) > (x.size : Int) by omega), if_pos (show (0 : Int) ≤ (((varB x.size).length : Nat) : Int) by omega),
      if_pos (show (((varB x.size).length : Nat) : Int) ≤ (((varB x.size).length + x.size : Nat) : Int) by omega), if_pos (Int.le_refl (((varB x.size).length + x.size : Nat) : Int)), Int.toNat_natCast, hext]
    exact Ev.now _
  refine Ev.step (fun k => laws_FnNumbers.j2.eq_2 n t true n c true n true x k) ?_
  refine Ev.bind hS ?_
  refine Ev.bind hR ?_
  refine Ev.bind (impl_hex x (by omega)) ?_
  refine Ev.bind (unhex_back x hx) ?_
  simp only [if_true, if_pos hc, beq_self_eq_true]
  exact Ev.now _
theorem j1_true (l : List Int) (hl : l.length ≤ 140737488351232) (m : Nat) (hm : m ≤ 1000000000) : Ev (fun k => laws_FnNumbers.j1 k l (m : Int)) true := by
  have hlen := var_len m hm
  have hz : (strOfNums (varB m)).size = (varB m).length := strOfNums_size _
  have hV : Ev (fun k => impl_VarText.f k (m : Int)) (strOfNums (varB m), true) := by
    unfold impl_VarText.f
    simp only [if_neg (show ¬ (m : Int) < 0 by omega), if_neg (show ¬ (m : Int) > 1000000000 by omega)]
    refine Ev.bind (impl_var m (by omega)) ?_
    exact Ev.now _
  have z1 : (⟨#[120]⟩ : ByteArray).size = 1 := rfl
  have z2 : ((⟨#[120]⟩ : ByteArray) ++ strOfNums (varB m)).size = 1 + (varB m).length := by rw [size_append, hz, z1]
  have z3 : ((⟨#[120]⟩ : ByteArray) ++ strOfNums (varB m) ++ (⟨#[121]⟩ : ByteArray)).size = 1 + (varB m).length + 1 := by
    rw [size_append, z2]
    rfl
  have hR := read_var ((⟨#[120]⟩ : ByteArray) ++ strOfNums (varB m) ++ (⟨#[121]⟩ : ByteArray)) (by omega) 1 m hm (by omega) (by
    intro j hj
    rw [bt_left _ _ _ (by omega)]
    have := bt_right (⟨#[120]⟩ : ByteArray) (strOfNums (varB m)) j
    rw [z1] at this
    rw [this]
    exact bt_nums _ (varB_range _) j hj)
  obtain ⟨x, hD⟩ := draw_hex l hl
  have hc : ((1 + (varB m).length : Nat) : Int) = wrap64 (((strOfNums (varB m)).size : Int) + 1) := by
    rw [w64 (by omega) (by omega)]
    omega
  refine Ev.step (fun k => laws_FnNumbers.j1.eq_2 l (m : Int) k) ?_
  refine Ev.bind hV ?_
  simp only [if_pos (show 1 + (strOfNums (varB m)).size ≤ 9223372036854775807 by omega), if_pos (show ((⟨#[120]⟩ : ByteArray) ++ strOfNums (varB m)).size + 1 ≤ 9223372036854775807 by omega)]
  refine Ev.bind hR ?_
  simp only [impl_dec m hm, Option.bind_some]
  refine Ev.bind (dec_back m hm) ?_
  refine Ev.bind hD ?_
  by_cases hx : (x.size : Int) > 300
  · simp only [if_pos hx]
    exact j2_true (m : Int) (strOfNums (varB m)) _ (by decide) _ hc
  · simp only [if_neg hx]
    exact j2_true (m : Int) (strOfNums (varB m)) _ (by omega) _ hc
end Numbers
theorem FnNumbers : laws_FnNumbers.Pure := by
  intro l _ hl0 _
  have hl : l.length ≤ 140737488351232 := by omega
  refine Ev.rounds ?_
  have J : ∀ (n : Int) (b : Bool), (b = true ∨ (0 ≤ n ∧ n ≤ 1000000000)) → Ev (fun k => laws_FnNumbers.j0 k l n b) true := by
    intro n b h
    refine Ev.step (fun k => laws_FnNumbers.j0.eq_2 l n b k) ?_
    by_cases hb : b = true
    · simp only [if_pos hb]
      exact Numbers.j1_true l hl 12345 (by decide)
    · simp only [if_neg hb]
      obtain ⟨h0, h1⟩ := h.resolve_left hb
      obtain ⟨m, rfl⟩ := Int.eq_ofNat_of_zero_le h0
      exact Numbers.j1_true l hl m (by omega)
  unfold laws_FnNumbers.f laws_big.f
  simp only [Option.bind_some]
  by_cases hb : (l.length : Int) > 1048576
  · simp only [decide_eq_true hb, if_true]
    exact Ev.now _
  · simp only [decide_eq_false hb, Bool.false_eq_true, if_false]
    obtain ⟨n, hn⟩ := Numbers.draw_var l hl
    refine Ev.bind hn ?_
    by_cases h1 : n < 0
    · simp only [if_pos h1]
      exact J n true (.inl rfl)
    · simp only [if_neg h1]
      refine J n _ ?_
      by_cases h2 : n > 1000000000
      · exact .inl (decide_eq_true h2)
      · exact .inr ⟨by omega, by omega⟩
end Go.Proofs.YtpcjbnglolfaaaaDoor.Pure
