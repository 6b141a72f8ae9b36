/- Which bytes are the shortest writing of a number, seven bits a byte. -/
import Derived.Test.YtpcjbnglolfaaaaDoorVarLib
import Derived.Test.YtpcjbnglolfaaaaDoorBytes
namespace Go.Proofs.YtpcjbnglolfaaaaDoor.Lib
open Go.RowKit Go.Proofs.YtpcjbnglolfaaaaDoorW.PrintWords
set_option linter.unusedSimpArgs false
set_option linter.unusedVariables false

/-- What some bytes come to. -/
def val : List Int → Int
  | [] => 0
  | b :: l => b % 128 + 128 * val l
theorem val_nonneg : ∀ l : List Int, 0 ≤ val l
  | [] => Int.le_refl _
  | b :: l => by
    have := val_nonneg l
    unfold val
    omega
theorem val_snoc (l : List Int) (c : Int) : val (l ++ [c]) = val l + c % 128 * 128 ^ l.length := by
  induction l with
  | nil => simp [val]
  | cons b l ih =>
    simp only [List.cons_append, val, ih, List.length_cons, Int.pow_succ, Int.mul_add]
    rw [Int.mul_comm 128 (c % 128 * 128 ^ l.length), Int.mul_assoc, Int.add_assoc]
theorem val_lt (l : List Int) : val l < 128 ^ l.length := by
  induction l with
  | nil => simp [val]
  | cons b l ih =>
    simp only [val, List.length_cons, Int.pow_succ]
    omega
theorem canon (c : Int) (h0 : 0 ≤ c) (h1 : c < 128) : ∀ l : List Int, (∀ b ∈ l, 128 ≤ b ∧ b < 256) → (varB (val (l ++ [c])).toNat = l ++ [c] ↔ (c ≠ 0 ∨ l = []))
  | [], _ => by
    have e : val ([] ++ [c]) = c := by
      simp only [List.nil_append, val]
      omega
    rw [e, varB_small (by omega), Int.toNat_of_nonneg h0]
    simp
  | b :: l, hl => by
    have ih := canon c h0 h1 l (fun x hx => hl x (List.mem_cons_of_mem _ hx))
    obtain ⟨hb1, hb2⟩ := hl b List.mem_cons_self
    have hv := val_nonneg (l ++ [c])
    have e : val (b :: l ++ [c]) = b - 128 + 128 * val (l ++ [c]) := by
      simp only [List.cons_append, val]
      omega
    have pos : c ≠ 0 → 0 < val (l ++ [c]) := by
      intro hc
      rw [val_snoc]
      have h2 := val_nonneg l
      have h3 : (0 : Int) < 128 ^ l.length := Int.pow_pos (by decide)
      have h4 : 0 < c % 128 := by omega
      have := Int.mul_pos h4 h3
      omega
    rw [e]
    by_cases hp : 0 < val (l ++ [c])
    · rw [varB_great (by omega)]
      have e1 : (((b - 128 + 128 * val (l ++ [c])).toNat % 128 + 128 : Nat) : Int) = b := by omega
      have e2 : (b - 128 + 128 * val (l ++ [c])).toNat / 128 = (val (l ++ [c])).toNat := by omega
      rw [e1, e2]
      simp only [List.cons_append, List.cons.injEq, true_and]
      rw [ih]
      constructor
      · rintro (hc | rfl)
        · exact .inl hc
        · refine .inl fun hc => ?_
          subst hc
          simp [val] at hp
      · rintro (hc | hc)
        · exact .inl hc
        · cases hc
    · rw [varB_small (by omega)]
      constructor
      · intro h
        have := congrArg List.length h
        simp at this
      · rintro (hc | hc)
        · exact absurd (pos hc) hp
        · cases hc
theorem varB_range (n : Nat) : ∀ b ∈ varB n, 0 ≤ b ∧ b < 256 := by
  induction n using Nat.strongRecOn with
  | ind n ih =>
    intro b hb
    by_cases h : n < 128
    · rw [varB_small h] at hb
      simp only [List.mem_singleton] at hb
      omega
    · rw [varB_great h] at hb
      simp only [List.mem_cons] at hb
      rcases hb with rfl | hb
      · omega
      · exact ih (n / 128) (by omega) b hb
/-- A text's bytes as numbers. -/
def ints (l : List UInt8) : List Int := l.map fun b => (b.toNat : Int)
theorem ints_inj {a b : List UInt8} (h : ints a = ints b) : a = b := by
  unfold ints at h
  refine List.map_inj_right (f := fun b : UInt8 => (b.toNat : Int)) ?_ |>.1 h
  intro x y hxy
  exact UInt8.toNat_inj.1 (by exact_mod_cast hxy)
theorem ints_nums (xs : List Int) (h : ∀ b ∈ xs, 0 ≤ b ∧ b < 256) : ints (strOfNums xs).toList = xs := by
  rw [strOfNums_toList]
  unfold ints
  rw [List.map_map]
  conv => rhs; rw [← List.map_id xs]
  refine List.map_congr_left fun b hb => ?_
  obtain ⟨h1, h2⟩ := h b hb
  simp only [Function.comp, id]
  rw [UInt8.toNat_ofNat_of_lt' (by simp; omega)]
  omega
theorem nums_eq (xs : List Int) (h : ∀ b ∈ xs, 0 ≤ b ∧ b < 256) (s : ByteArray) : (strOfNums xs).toList = s.toList ↔ xs = ints s.toList := by
  constructor
  · intro e
    rw [← e, ints_nums xs h]
  · intro e
    apply ints_inj
    rw [ints_nums xs h, e]
/-- i bytes of a text from place a on. -/
def pref (s : ByteArray) (a i : Nat) : List Int := (List.range i).map fun j => bt s ((a + j : Nat) : Int)
theorem pref_length (s : ByteArray) (a i : Nat) : (pref s a i).length = i := by simp [pref]
theorem pref_succ (s : ByteArray) (a i : Nat) : pref s a (i + 1) = pref s a i ++ [bt s ((a + i : Nat) : Int)] := by simp [pref, List.range_succ]
theorem ints_ext (s : ByteArray) (a i : Nat) (h : a + i ≤ s.size) : ints (s.extract a (a + i)).toList = pref s a i := by
  have hz := size_list s
  rw [ext_list, show a + i - a = i by omega]
  apply List.ext_getElem
  · simp [ints, pref]
    omega
  · intro j h1 h2
    have hj : j < i := by simpa [pref] using h2
    simp only [ints, pref, List.getElem_map, List.getElem_range, List.getElem_take, List.getElem_drop]
    rw [bt_list, List.getD_eq_getElem?_getD, List.getElem?_eq_getElem (by omega)]
    rfl
end Go.Proofs.YtpcjbnglolfaaaaDoor.Lib
