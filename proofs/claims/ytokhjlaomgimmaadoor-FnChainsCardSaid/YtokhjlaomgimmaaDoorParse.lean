/- An order of a chain, read: plain law. -/
import Derived.Test.YtokhjlaomgimmaaDoorProg
namespace Go.Proofs.YtokhjlaomgimmaaDoor.Parse
set_option linter.unusedVariables false
set_option linter.unusedSimpArgs false

/-- What an order costs: from a place and a number on; the next place, the next number, the cost. -/
def P (c : Nat → Int) (sz : Nat) (d : Nat → Int) (n : Nat) : Nat → Nat → Nat → Option (Nat × Nat × Int)
  | 0, _, _ => none
  | m + 1, at_, nx =>
    if sz ≤ at_ then none
    else if c at_ = 40 then
      match P c sz d n m (at_ + 1) nx with
      | none => none
      | some (a1, m1, c1) =>
        match P c sz d n m a1 m1 with
        | none => none
        | some (a2, m2, c2) => if a2 < sz ∧ c a2 = 41 then some (a2 + 1, m2, c1 + c2 + d nx * d m1 * d m2) else none
    else if c at_ = 48 + (nx : Int) ∧ nx < n then some (at_ + 1, nx + 1, 0) else none

theorem P_open {c : Nat → Int} {sz : Nat} {d : Nat → Int} {n m a x : Nat} {r : Nat × Nat × Int} (h : P c sz d n (m + 1) a x = some r) :
    a < sz ∧ ((c a = 40 ∧ ∃ a1 m1 c1 a2 m2 c2, P c sz d n m (a + 1) x = some (a1, m1, c1) ∧ P c sz d n m a1 m1 = some (a2, m2, c2) ∧ a2 < sz ∧ c a2 = 41 ∧ r = (a2 + 1, m2, c1 + c2 + d x * d m1 * d m2)) ∨ (c a ≠ 40 ∧ c a = 48 + (x : Int) ∧ x < n ∧ r = (a + 1, x + 1, 0))) := by
  simp only [P] at h
  by_cases h1 : sz ≤ a
  · rw [if_pos h1] at h; exact absurd h (by simp)
  rw [if_neg h1] at h
  refine ⟨by omega, ?_⟩
  by_cases h2 : c a = 40
  · rw [if_pos h2] at h
    left
    refine ⟨h2, ?_⟩
    cases hp : P c sz d n m (a + 1) x with
    | none => rw [hp] at h; exact absurd h (by simp)
    | some q =>
      obtain ⟨a1, m1, c1⟩ := q
      rw [hp] at h
      simp only at h
      cases hq : P c sz d n m a1 m1 with
      | none => rw [hq] at h; exact absurd h (by simp)
      | some q2 =>
        obtain ⟨a2, m2, c2⟩ := q2
        rw [hq] at h
        simp only at h
        by_cases h3 : a2 < sz ∧ c a2 = 41
        · rw [if_pos h3] at h
          exact ⟨a1, m1, c1, a2, m2, c2, rfl, hq, h3.1, h3.2, (Option.some.inj h).symm⟩
        · rw [if_neg h3] at h; exact absurd h (by simp)
  · rw [if_neg h2] at h
    right
    by_cases h3 : c a = 48 + (x : Int) ∧ x < n
    · rw [if_pos h3] at h
      exact ⟨h2, h3.1, h3.2, (Option.some.inj h).symm⟩
    · rw [if_neg h3] at h; exact absurd h (by simp)

theorem P_pair {c : Nat → Int} {sz : Nat} {d : Nat → Int} {n m a x a1 m1 a2 m2 : Nat} {c1 c2 : Int} (ha : a < sz) (hc : c a = 40) (h1 : P c sz d n m (a + 1) x = some (a1, m1, c1)) (h2 : P c sz d n m a1 m1 = some (a2, m2, c2)) (ha2 : a2 < sz) (hc2 : c a2 = 41) :
    P c sz d n (m + 1) a x = some (a2 + 1, m2, c1 + c2 + d x * d m1 * d m2) := by
  simp only [P]
  rw [if_neg (by omega), if_pos hc, h1]
  simp only
  rw [h2]
  simp only
  rw [if_pos ⟨ha2, hc2⟩]

theorem P_leaf {c : Nat → Int} {sz : Nat} {d : Nat → Int} {n m a x : Nat} (ha : a < sz) (hc : c a ≠ 40) (h1 : c a = 48 + (x : Int)) (h2 : x < n) :
    P c sz d n (m + 1) a x = some (a + 1, x + 1, 0) := by
  simp only [P]
  rw [if_neg (by omega), if_neg hc, if_pos ⟨h1, h2⟩]

theorem P_more {c : Nat → Int} {sz : Nat} {d : Nat → Int} {n : Nat} : ∀ {m a x : Nat} {r : Nat × Nat × Int}, P c sz d n m a x = some r → P c sz d n (m + 1) a x = some r
  | 0, _, _, _, h => absurd h (by simp [P])
  | m + 1, a, x, r, h => by
    obtain ⟨ha, h⟩ := P_open h
    rcases h with ⟨hc, a1, m1, c1, a2, m2, c2, h1, h2, h3, h4, rfl⟩ | ⟨hc, h1, h2, rfl⟩
    · exact P_pair ha hc (P_more h1) (P_more h2) h3 h4
    · exact P_leaf ha hc h1 h2

theorem P_mono {c : Nat → Int} {sz : Nat} {d : Nat → Int} {n m m' a x : Nat} {r : Nat × Nat × Int} (h : P c sz d n m a x = some r) (hm : m ≤ m') : P c sz d n m' a x = some r := by
  induction hm with
  | refl => exact h
  | step _ ih => exact P_more ih

/-- It goes on, and stays within. -/
theorem P_on {c : Nat → Int} {sz : Nat} {d : Nat → Int} {n : Nat} : ∀ {m a x a' x' : Nat} {r : Int}, P c sz d n m a x = some (a', x', r) → a < a' ∧ a' ≤ sz ∧ x < x' ∧ x' ≤ n
  | 0, _, _, _, _, _, h => absurd h (by simp [P])
  | m + 1, a, x, a', x', r, h => by
    obtain ⟨ha, h⟩ := P_open h
    rcases h with ⟨hc, a1, m1, c1, a2, m2, c2, h1, h2, h3, h4, he⟩ | ⟨hc, h1, h2, he⟩
    · simp only [Prod.mk.injEq] at he
      have := P_on h1
      have := P_on h2
      omega
    · simp only [Prod.mk.injEq] at he
      omega

/-- How long the text of an order is. -/
theorem P_long {c : Nat → Int} {sz : Nat} {d : Nat → Int} {n : Nat} : ∀ {m a x a' x' : Nat} {r : Int}, P c sz d n m a x = some (a', x', r) → a' + 2 = a + 3 * (x' - x)
  | 0, _, _, _, _, _, h => absurd h (by simp [P])
  | m + 1, a, x, a', x', r, h => by
    obtain ⟨ha, h⟩ := P_open h
    rcases h with ⟨hc, a1, m1, c1, a2, m2, c2, h1, h2, h3, h4, he⟩ | ⟨hc, h1, h2, he⟩
    · simp only [Prod.mk.injEq] at he
      have := P_on h1
      have := P_on h2
      have := P_long h1
      have := P_long h2
      omega
    · simp only [Prod.mk.injEq] at he
      omega

/-- What it costs, within bounds. -/
theorem P_cost {c : Nat → Int} {sz : Nat} {d : Nat → Int} {n : Nat} (hd : ∀ i, i ≤ n → 1 ≤ d i ∧ d i ≤ 5) : ∀ {m a x a' x' : Nat} {r : Int}, P c sz d n m a x = some (a', x', r) → 0 ≤ r ∧ r + 125 ≤ 125 * ((x' : Int) - x)
  | 0, _, _, _, _, _, h => absurd h (by simp [P])
  | m + 1, a, x, a', x', r, h => by
    obtain ⟨ha, h⟩ := P_open h
    rcases h with ⟨hc, a1, m1, c1, a2, m2, c2, h1, h2, h3, h4, he⟩ | ⟨hc, h1, h2, he⟩
    · simp only [Prod.mk.injEq] at he
      have o1 := P_on h1
      have o2 := P_on h2
      have b1 := P_cost hd h1
      have b2 := P_cost hd h2
      have e0 := hd x (by omega)
      have e1 := hd m1 (by omega)
      have e2 := hd m2 (by omega)
      have q1 : 0 ≤ d x * d m1 := Int.mul_nonneg (by omega) (by omega)
      have q2 : d x * d m1 ≤ 5 * 5 := Int.mul_le_mul (by omega) (by omega) (by omega) (by omega)
      have q3 : 0 ≤ d x * d m1 * d m2 := Int.mul_nonneg q1 (by omega)
      have q4 : d x * d m1 * d m2 ≤ 25 * 5 := Int.mul_le_mul (by omega) (by omega) (by omega) (by omega)
      obtain ⟨_, he2, he3⟩ := he
      rw [he2, he3]
      generalize d x * d m1 * d m2 = t at *
      omega
    · simp only [Prod.mk.injEq] at he
      obtain ⟨rfl, rfl, rfl⟩ := he
      omega

/-- Beyond the last number there is none. -/
theorem P_beyond {c : Nat → Int} {sz : Nat} {d : Nat → Int} {n m a x : Nat} (hx : n ≤ x) : P c sz d n m a x = none := by
  cases h : P c sz d n m a x with
  | none => rfl
  | some r =>
    obtain ⟨a', x', r⟩ := r
    have := P_on h
    omega
end Go.Proofs.YtokhjlaomgimmaaDoor.Parse
