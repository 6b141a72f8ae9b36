/- The program's reader of an order, as printed, against the plain reading of an order. -/
import Derived.Test.YtokhjlaomgimmaaDoorQFnChainsx2
import Derived.Test.YtokhjlaomgimmaaDoorParse
namespace Go.Proofs.YtokhjlaomgimmaaDoor.PFnChains
open Go.RowKit Go.Proofs.YtokhjlaomgimmaaDoorW.PrintWords Go.Proofs.YtokhjlaomgimmaaDoorW.PrintLast Go.Proofs.YtokhjlaomgimmaaDoorW.PrintMore
open Go.Proofs.YtokhjlaomgimmaaDoor.Parse
set_option linter.unusedVariables false
set_option linter.unusedSimpArgs false
theorem w64c {n : Int} (h0 : -9223372036854775808 ≤ n) (h1 : n ≤ 9223372036854775807) : wrap64 n = n := by
  unfold wrap64; omega
theorem if_dec {α : Type} {p : Prop} [Decidable p] {b : Bool} {x y : α} (h : b = decide p) : (if b = true then x else y) = if p then x else y := by
  subst h; by_cases hp : p <;> simp [hp]
/-- The plain reading of an order for a text and a list. -/
def PT (T : ByteArray) (l : List Int) : Nat → Nat → Nat → Option (Nat × Nat × Int) := P (fun i => bt T (i : Int)) T.size (fun i => rd l (i : Int)) (l.length - 1)
theorem part_fits {l : List Int} {a b c : Nat} (hd : ∀ i : Nat, i < l.length → 1 ≤ rd l (i : Int) ∧ rd l (i : Int) ≤ 5) (ha : a < l.length) (hb : b < l.length) (hc : c < l.length) :
    wrap64 (wrap64 (rd l (a : Int) * rd l (b : Int)) * rd l (c : Int)) = rd l (a : Int) * rd l (b : Int) * rd l (c : Int) ∧ 0 ≤ rd l (a : Int) * rd l (b : Int) * rd l (c : Int) ∧ rd l (a : Int) * rd l (b : Int) * rd l (c : Int) ≤ 125 := by
  have e0 := hd a ha
  have e1 := hd b hb
  have e2 := hd c hc
  have q1 : 0 ≤ rd l (a : Int) * rd l (b : Int) := Int.mul_nonneg (by omega) (by omega)
  have q2 : rd l (a : Int) * rd l (b : Int) ≤ 5 * 5 := Int.mul_le_mul (by omega) (by omega) (by omega) (by omega)
  have q3 : 0 ≤ rd l (a : Int) * rd l (b : Int) * rd l (c : Int) := Int.mul_nonneg q1 (by omega)
  have q4 : rd l (a : Int) * rd l (b : Int) * rd l (c : Int) ≤ 25 * 5 := Int.mul_le_mul (by omega) (by omega) (by omega) (by omega)
  refine ⟨?_, q3, by omega⟩
  rw [w64c (n := rd l (a : Int) * rd l (b : Int)) (by omega) (by omega), w64c (by omega) (by omega)]
theorem take_bad (T : ByteArray) (l : List Int) (a x b : Int) : impl_orderReader_take.f l T a x true b = some (T, a, x, true) := by
  simp [impl_orderReader_take.f]
theorem take_on (T : ByteArray) (l : List Int) (a : Nat) (x b : Int) (ha : a < T.size) (hT : T.size ≤ 40) : impl_orderReader_take.f l T (a : Int) x false b = if bt T (a : Int) = b then some (T, ((a + 1 : Nat) : Int), x, false) else some (T, (a : Int), x, true) := by
  simp only [impl_orderReader_take.f]
  rw [if_neg (by simp), if_neg (by omega), if_pos (by omega), if_pos (by omega), w64c (by omega) (by omega)]
  rfl
theorem take_end (T : ByteArray) (l : List Int) (a : Nat) (x b : Int) (ha : T.size ≤ a) : impl_orderReader_take.f l T (a : Int) x false b = some (T, (a : Int), x, true) := by
  simp only [impl_orderReader_take.f]
  rw [if_neg (by simp), if_pos (by omega)]
theorem impl_bad (T : ByteArray) (l : List Int) (a x : Int) (k : Nat) (hk : 2 ≤ k) : impl_orderReader_part.f k l T a x true = some (0, T, a, x, true) := by
  obtain ⟨k, rfl⟩ : ∃ j, k = j + 2 := ⟨k - 2, by omega⟩
  simp [impl_orderReader_part.f, impl_orderReader_part.j0]
theorem impl_tie (T : ByteArray) (l : List Int) (hn : 2 ≤ l.length) (hn8 : l.length ≤ 8) (hT : T.size ≤ 40) (hd : ∀ i : Nat, i < l.length → 1 ≤ rd l (i : Int) ∧ rd l (i : Int) ≤ 5) :
    ∀ (m a x : Nat), T.size - a < m → a ≤ T.size → x ≤ l.length - 1 → ∀ k, 3 * m + 2 ≤ k →
      (PT T l m a x = none ∧ ∃ r1 a' x', impl_orderReader_part.f k l T (a : Int) (x : Int) false = some (r1, T, a', x', true)) ∨
      (∃ (a2 m2 : Nat) (c2 : Int), PT T l m a x = some (a2, m2, c2) ∧ impl_orderReader_part.f k l T (a : Int) (x : Int) false = some (c2, T, (a2 : Int), (m2 : Int), false)) := by
  have hdP : ∀ i, i ≤ l.length - 1 → 1 ≤ (fun i : Nat => rd l (i : Int)) i ∧ (fun i : Nat => rd l (i : Int)) i ≤ 5 := fun i hi => hd i (by omega)
  intro m
  induction m with
  | zero => intro a x h; omega
  | succ m ih =>
  intro a x hm ha hx k hk
  obtain ⟨k, rfl⟩ : ∃ j, k = j + 3 := ⟨k - 3, by omega⟩
  have hk : 3 * m + 2 ≤ k := by omega
  have hsub : ((l.length : Int) - 1) = ((l.length - 1 : Nat) : Int) := by omega
  simp only [impl_orderReader_part.f, impl_orderReader_part.j0, impl_orderReader_part.j1]
  rw [if_neg (by simp), w64c (n := (l.length : Int) - 1) (by omega) (by omega), hsub]
  by_cases hxn : x < l.length - 1
  case neg =>
    left
    refine ⟨P_beyond (by omega), ?_⟩
    rw [if_pos (by simp; omega)]; exact ⟨_, _, _, rfl⟩
  rw [if_neg (by simp; omega)]
  by_cases hs : a = T.size
  · left
    refine ⟨?_, ?_⟩
    · simp only [PT, P]; rw [if_pos (by omega)]
    · rw [if_neg (by omega), if_neg (by simp), take_end T l a _ _ (by omega)]
      simp only [Option.bind_some]
      by_cases hk2 : 2 ≤ k
      · rw [impl_bad T l _ _ k hk2]
        simp only [Option.bind_some]
        rw [impl_bad T l _ _ k hk2]
        simp only [Option.bind_some]
        rw [take_bad]
        simp only [Option.bind_some]
        rw [if_pos (by simp)]; exact ⟨_, _, _, rfl⟩
      · exfalso; omega
  have hlt : a < T.size := by omega
  rw [if_pos (by omega), if_pos (by omega)]
  by_cases h40 : bt T (a : Int) = 40
  · rw [if_neg (by simp [h40]), take_on T l a _ _ hlt hT, if_pos h40]
    simp only [Option.bind_some]
    rcases ih (a + 1) x (by omega) (by omega) hx k hk with ⟨hp, r1, a', x', hf⟩ | ⟨a1, m1, c1, hp, hf⟩
    · left
      refine ⟨?_, ?_⟩
      · simp only [PT, P] at hp ⊢; rw [if_neg (by omega), if_pos h40, hp]
      · rw [hf]
        simp only [Option.bind_some]
        rw [impl_bad T l a' x' k (by omega)]
        simp only [Option.bind_some]
        rw [take_bad]
        simp
    · have o1 := P_on hp
      have b1 := P_cost hdP hp
      rw [hf]
      simp only [Option.bind_some]
      rcases ih a1 m1 (by omega) (by omega) (by omega) k hk with ⟨hp2, r1, a', x', hf2⟩ | ⟨a2, m2, c2, hp2, hf2⟩
      · left
        refine ⟨?_, ?_⟩
        · simp only [PT] at hp hp2 ⊢; simp only [P]; rw [if_neg (by omega), if_pos h40, hp]; simp only; rw [hp2]
        · rw [hf2]
          simp only [Option.bind_some]
          rw [take_bad]
          simp
      · have o2 := P_on hp2
        have b2 := P_cost hdP hp2
        rw [hf2]
        simp only [Option.bind_some]
        by_cases hs2 : a2 = T.size
        · left
          refine ⟨?_, ?_⟩
          · simp only [PT] at hp hp2 ⊢; simp only [P]; rw [if_neg (by omega), if_pos h40, hp]; simp only; rw [hp2]; simp only; rw [if_neg (by omega)]
          · rw [take_end T l a2 _ _ (by omega)]; simp
        rw [take_on T l a2 _ _ (by omega) hT]
        by_cases h41 : bt T (a2 : Int) = 41
        · right
          rw [if_pos h41]
          simp only [Option.bind_some]
          rw [if_neg (by simp), if_pos (by omega), if_pos (by omega), if_pos (by omega), if_pos (by omega), if_pos (by omega), if_pos (by omega)]
          refine ⟨a2 + 1, m2, c1 + c2 + rd l (x : Int) * rd l (m1 : Int) * rd l (m2 : Int), ?_, ?_⟩
          · exact P_pair (c := fun i => bt T (i : Int)) (d := fun i => rd l (i : Int)) hlt h40 hp hp2 (by omega) h41
          · obtain ⟨q1, q2, q3⟩ := part_fits (a := x) (b := m1) (c := m2) hd (by omega) (by omega) (by omega)
            rw [q1]
            generalize rd l (x : Int) * rd l (m1 : Int) * rd l (m2 : Int) = t at *
            rw [w64c (n := c1 + c2) (by omega) (by omega), w64c (n := c1 + c2 + t) (by omega) (by omega)]
        · left
          refine ⟨?_, ?_⟩
          · simp only [PT] at hp hp2 ⊢; simp only [P]; rw [if_neg (by omega), if_pos h40, hp]; simp only; rw [hp2]; simp only; rw [if_neg (fun h => h41 h.2)]
          · rw [if_neg h41]; simp
  · rw [if_pos (by simp [h40]), take_on T l a _ _ hlt hT]
    have e1 : wrap64 (48 + (x : Int)) % 256 = 48 + (x : Int) := by rw [w64c (by omega) (by omega)]; omega
    rw [e1]
    by_cases h48 : bt T (a : Int) = 48 + (x : Int)
    · right
      rw [if_pos h48]
      simp only [Option.bind_some]
      refine ⟨a + 1, x + 1, 0, P_leaf (c := fun i => bt T (i : Int)) (d := fun i => rd l (i : Int)) hlt h40 h48 hxn, ?_⟩
      rw [w64c (n := (x : Int) + 1) (by omega) (by omega)]
      rfl
    · left
      refine ⟨?_, ?_⟩
      · simp only [PT, P]; rw [if_neg (by omega), if_neg h40, if_neg (fun h => h48 h.1)]
      · rw [if_neg h48]; simp
end Go.Proofs.YtokhjlaomgimmaaDoor.PFnChains
