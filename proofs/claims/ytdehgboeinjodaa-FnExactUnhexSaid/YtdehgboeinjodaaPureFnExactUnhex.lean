/- The program's Unhex and the reference's give one answer, for every text. -/
import Derived.Test.YtdehgboeinjodaaQFnExactUnhexx1
import Derived.Test.YtdehgboeinjodaaLib
import Derived.Laws.BitsLemmas
namespace Go.Proofs.Ytdehgboeinjodaa.Pure
open Go.RowKit Go.Proofs.Ytdehgboeinjodaa.PFnExactUnhex Go.Proofs.YtdehgboeinjodaaW.PrintWords Go.Proofs.YtdehgboeinjodaaW.PrintLast Go.Proofs.Ytdehgboeinjodaa.Lib
set_option linter.unusedSimpArgs false
set_option linter.unusedVariables false
namespace Unhex
/-- What a figure is worth; -1 where it is none. -/
def valOf (c : Int) : Int := if 48 ≤ c ∧ c ≤ 57 then c - 48 else if 97 ≤ c ∧ c ≤ 102 then c - 87 else -1
theorem valOf_range (c : Int) : -1 ≤ valOf c ∧ valOf c < 16 := by
  unfold valOf
  split
  · omega
  · split <;> omega
theorem spec_value (c : Int) (h0 : 0 ≤ c) (h1 : c < 256) : Ev (fun k => spec_l01Value.f k c) (valOf c) := by
  have J : ∀ b : Bool, b = decide (48 ≤ c ∧ c ≤ 57) → Ev (fun k => spec_l01Value.j0 k c b) (valOf c) := by
    intro b hb
    refine Ev.step (fun k => spec_l01Value.j0.eq_2 c b k) ?_
    have e1 : wrap64 c = c := w64 (by omega) (by omega)
    have e2 : wrap64 (c - 48) = c - 48 := w64 (by omega) (by omega)
    have e3 : wrap64 (c - 97) = c - 97 := w64 (by omega) (by omega)
    have e4 : wrap64 (c - 97 + 10) = c - 97 + 10 := w64 (by omega) (by omega)
    simp only [e1, e2, e3, e4]
    unfold valOf
    by_cases h : 48 ≤ c ∧ c ≤ 57
    · rw [decide_eq_true h] at hb
      subst hb
      simp only [if_true, if_pos h]
      exact Ev.now _
    · rw [decide_eq_false h] at hb
      subst hb
      simp only [Bool.false_eq_true, if_false, if_neg h]
      by_cases h2 : c ≥ 97
      · by_cases h3 : c ≤ 102
        · simp only [if_pos h2, if_pos h3, if_pos (show 97 ≤ c ∧ c ≤ 102 from ⟨h2, h3⟩)]
          rw [show c - 87 = c - 97 + 10 by omega]
          exact Ev.now _
        · simp only [if_pos h2, if_neg h3, if_neg (show ¬ (97 ≤ c ∧ c ≤ 102) by omega)]
          exact Ev.now _
      · simp only [if_neg h2, if_neg (show ¬ (97 ≤ c ∧ c ≤ 102) by omega)]
        exact Ev.now _
  unfold spec_l01Value.f
  by_cases h : c ≥ 48
  · simp only [if_pos h]
    exact J _ (decide_eq_decide.2 (by omega))
  · simp only [if_neg h]
    exact J _ (decide_eq_false (by omega)).symm
theorem index_fin : ∀ j : Fin 256, Lib.indexByte (⟨#[48, 49, 50, 51, 52, 53, 54, 55, 56, 57, 97, 98, 99, 100, 101, 102]⟩ : ByteArray).data.toList (((j.val : Nat) : Int).toNat.toUInt8) = valOf ((j.val : Nat) : Int) := by decide +kernel
theorem impl_value (c : Int) (h0 : 0 ≤ c) (h1 : c < 256) : strings_IndexByte.f (⟨#[48, 49, 50, 51, 52, 53, 54, 55, 56, 57, 97, 98, 99, 100, 101, 102]⟩ : ByteArray) c = some (valOf c) := by
  obtain ⟨n, rfl⟩ := Int.eq_ofNat_of_zero_le h0
  unfold strings_IndexByte.f
  rw [index_fin ⟨n, by omega⟩]
theorem join16 (h l : Int) (h0 : 0 ≤ h) (h1 : h < 16) (l0 : 0 ≤ l) (l1 : l < 16) : Go.bits .or .i64 (wrap64 (h * 16)) l = wrap64 (wrap64 (16 * h) + l) := by
  rw [w64 (n := h * 16) (by omega) (by omega), w64 (n := 16 * h) (by omega) (by omega), w64 (n := 16 * h + l) (by omega) (by omega),
    bits_join .i64 8 (by decide) (fun n h0 h1 => by rw [IntKind.wrap_i64]; omega) 4 (h * 16) l (by omega) (by omega) (by omega) l0 (by omega) (by omega)]
  omega
theorem unhex_l0 (s : ByteArray) (hs : s.size ≤ 1048576) (n : Nat) : ∀ (i : Int) (l : List Int), 0 ≤ i → i + 2 * n = s.size → 2 * l.length = i →
    ∃ r, Ev (fun k => spec_Unhex.l0 k s l i) r ∧ Ev (fun k => impl_Unhex.l0 k s l i) r := by
  induction n with
  | zero =>
    intro i l h0 hn hl
    refine ⟨(strOfNums l, true), ?_, ?_⟩
    · refine Ev.step (fun k => spec_Unhex.l0.eq_2 s l i k) ?_
      simp only [if_neg (show ¬ i < (s.size : Int) by omega)]
      exact Ev.now _
    · refine Ev.step (fun k => impl_Unhex.l0.eq_2 s l i k) ?_
      simp only [if_neg (show ¬ i < (s.size : Int) by omega)]
      exact Ev.now _
  | succ n ih =>
    intro i l h0 hn hl
    obtain ⟨c0, c1⟩ := bt_lt s i
    obtain ⟨d0, d1⟩ := bt_lt s (i + 1)
    obtain ⟨v0, v1⟩ := valOf_range (bt s i)
    obtain ⟨u0, u1⟩ := valOf_range (bt s (i + 1))
    have g1 : i < (s.size : Int) := by omega
    have g2 : i + 1 < (s.size : Int) := by omega
    have g3 : 0 ≤ i + 1 := by omega
    have g4 : l.length < 140737488355328 := by omega
    have e1 : wrap64 (i + 1) = i + 1 := w64 (by omega) (by omega)
    have e2 : wrap64 (i + 2) = i + 2 := w64 (by omega) (by omega)
    have S : ∀ r, Ev (fun k => if valOf (bt s i) < 0 then some ((⟨#[]⟩ : ByteArray), false) else if valOf (bt s (i + 1)) < 0 then some ((⟨#[]⟩ : ByteArray), false) else spec_Unhex.l0 k s (l ++ [(wrap64 (wrap64 (16 * valOf (bt s i)) + valOf (bt s (i + 1)))) % 256]) (i + 2)) r → Ev (fun k => spec_Unhex.l0 k s l i) r := by
      intro r H
      refine Ev.step (fun k => spec_Unhex.l0.eq_2 s l i k) ?_
      simp only [if_pos g1, if_pos h0, e1, e2]
      refine Ev.bind (spec_value _ c0 c1) ?_
      simp only [if_pos g3, if_pos g2]
      refine Ev.bind (spec_value _ d0 d1) ?_
      simp only [if_pos g4]
      exact H
    have I : ∀ r, Ev (fun k => if valOf (bt s i) < 0 then some ((⟨#[]⟩ : ByteArray), false) else if valOf (bt s (i + 1)) < 0 then some ((⟨#[]⟩ : ByteArray), false) else impl_Unhex.l0 k s (l ++ [(Go.bits .or .i64 (wrap64 (valOf (bt s i) * 16)) (valOf (bt s (i + 1)))) % 256]) (i + 2)) r → Ev (fun k => impl_Unhex.l0 k s l i) r := by
      intro r H
      refine Ev.step (fun k => impl_Unhex.l0.eq_2 s l i k) ?_
      simp only [if_pos g1, if_pos h0, e1, e2, impl_value _ c0 c1, impl_value _ d0 d1, Option.bind_some, if_pos g3, if_pos g2, if_pos g4]
      exact H
    by_cases hh : valOf (bt s i) < 0
    · refine ⟨((⟨#[]⟩ : ByteArray), false), S _ ?_, I _ ?_⟩
      · simp only [if_pos hh]
        exact Ev.now _
      · simp only [if_pos hh]
        exact Ev.now _
    · by_cases hl' : valOf (bt s (i + 1)) < 0
      · refine ⟨((⟨#[]⟩ : ByteArray), false), S _ ?_, I _ ?_⟩
        · simp only [if_neg hh, if_pos hl']
          exact Ev.now _
        · simp only [if_neg hh, if_pos hl']
          exact Ev.now _
      · obtain ⟨r, h1, h2⟩ := ih (i + 2) (l ++ [(wrap64 (wrap64 (16 * valOf (bt s i)) + valOf (bt s (i + 1)))) % 256]) (by omega) (by omega) (by simp only [List.length_append, List.length_cons, List.length_nil]; omega)
        refine ⟨r, S _ ?_, I _ ?_⟩
        · simp only [if_neg hh, if_neg hl']
          exact h1
        · simp only [if_neg hh, if_neg hl', join16 _ _ (show 0 ≤ valOf (bt s i) by omega) v1 (show 0 ≤ valOf (bt s (i + 1)) by omega) u1]
          exact h2
theorem unhex_both (s : ByteArray) (hs : s.size ≤ 1048576) : ∃ r, Ev (fun k => spec_Unhex.f k s) r ∧ Ev (fun k => impl_Unhex.f k s) r := by
  have ST : Ev (fun k => spec_Unhex.j0 k s true) ((⟨#[]⟩ : ByteArray), false) := by
    refine Ev.step (fun k => spec_Unhex.j0.eq_2 s true k) ?_
    simp only [if_true]
    exact Ev.now _
  have IT : Ev (fun k => impl_Unhex.j0 k s true) ((⟨#[]⟩ : ByteArray), false) := by
    refine Ev.step (fun k => impl_Unhex.j0.eq_2 s true k) ?_
    simp only [if_true]
    exact Ev.now _
  unfold spec_Unhex.f impl_Unhex.f
  by_cases h1 : (s.size : Int) > 24000
  · refine ⟨((⟨#[]⟩ : ByteArray), false), ?_, ?_⟩
    · simp only [if_pos h1]
      exact ST
    · simp only [decide_eq_true h1, ite_self]
      exact IT
  · by_cases h2 : (s.size : Int) % 2 = 0
    · obtain ⟨r, a, b⟩ := unhex_l0 s hs (s.size / 2) 0 [] (by omega) (by omega) rfl
      refine ⟨r, ?_, ?_⟩
      · have hb : ((s.size : Int) % 2 != 0) = false := by simp [h2]
        simp only [if_neg h1, hb]
        refine Ev.step (fun k => spec_Unhex.j0.eq_2 s false k) ?_
        simp only [Bool.false_eq_true, if_false]
        exact a
      · simp only [if_pos h2, decide_eq_false h1]
        refine Ev.step (fun k => impl_Unhex.j0.eq_2 s false k) ?_
        simp only [Bool.false_eq_true, if_false]
        exact b
    · refine ⟨((⟨#[]⟩ : ByteArray), false), ?_, ?_⟩
      · have hb : ((s.size : Int) % 2 != 0) = true := by simp [h2]
        simp only [if_neg h1, hb]
        exact ST
      · simp only [if_neg h2]
        exact IT
end Unhex
theorem FnExactUnhex : laws_FnExactUnhex.Pure := by
  intro s hs
  refine Ev.rounds ?_
  unfold laws_FnExactUnhex.f
  by_cases hb : (s.size : Int) > 1048576
  · simp only [if_pos hb]
    exact Ev.now _
  · simp only [if_neg hb]
    obtain ⟨r, h1, h2⟩ := Unhex.unhex_both s (by omega)
    refine Ev.bind h1 ?_
    refine Ev.bind h2 ?_
    simp only [if_true, bne_self_eq_false, Bool.false_eq_true, if_false]
    exact Ev.now _
end Go.Proofs.Ytdehgboeinjodaa.Pure
