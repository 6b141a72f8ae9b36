/- The program's Hex and the reference's give one answer, for every text. -/
import Derived.Test.YtdehgboeinjodaaQFnExactHexx1
import Derived.Test.YtdehgboeinjodaaLib
import Derived.Laws.BitsLemmas
namespace Go.Proofs.Ytdehgboeinjodaa.Pure
open Go.RowKit Go.Proofs.Ytdehgboeinjodaa.PFnExactHex Go.Proofs.YtdehgboeinjodaaW.PrintWords Go.Proofs.YtdehgboeinjodaaW.PrintLast Go.Proofs.Ytdehgboeinjodaa.Lib
set_option linter.unusedSimpArgs false
set_option linter.unusedVariables false
namespace Hex
/-- The figure of a number below 16. -/
def fig (x : Int) : Int := if x < 10 then 48 + x else 87 + x
def hexL (s : ByteArray) : Nat → Int → List Int
  | 0, _ => []
  | n + 1, i => fig (bt s i / 16) :: fig (bt s i % 16) :: hexL s n (i + 1)
theorem fig_spec (x : Int) (h0 : 0 ≤ x) (h1 : x < 16) : spec_l01Figure.f x = some (fig x) := by
  unfold spec_l01Figure.f fig
  by_cases h : x < 10
  · rw [if_pos h, if_pos h, w64 (by omega) (by omega)]
    congr 1
    omega
  · rw [if_neg h, if_neg h, w64 (n := 97 + x) (by omega) (by omega), w64 (by omega) (by omega)]
    congr 1
    omega
theorem spec_hex_l0 (s : ByteArray) (hs : s.size ≤ 1048576) (n : Nat) : ∀ (i : Int) (l : List Int), 0 ≤ i → i + n = s.size → l.length = 2 * i → Ev (fun k => spec_Hex.l0 k s l i) (strOfNums (l ++ hexL s n i), true) := by
  induction n with
  | zero =>
    intro i l h0 hn hl
    refine Ev.step (fun k => spec_Hex.l0.eq_2 s l i k) ?_
    simp only [if_neg (show ¬ i < (s.size : Int) by omega), hexL, List.append_nil]
    exact Ev.now _
  | succ n ih =>
    intro i l h0 hn hl
    obtain ⟨c0, c1⟩ := bt_lt s i
    have e1 : wrap64 (bt s i) = bt s i := w64 (by omega) (by omega)
    have e2 : wrap64 (Int.tdiv (bt s i) 16) = bt s i / 16 := by
      rw [Int.tdiv_eq_ediv_of_nonneg c0, w64 (by omega) (by omega)]
    have e3 : Int.tmod (bt s i) 16 = bt s i % 16 := Int.tmod_eq_emod_of_nonneg c0
    refine Ev.step (fun k => spec_Hex.l0.eq_2 s l i k) ?_
    simp only [if_pos (show i < (s.size : Int) by omega), if_pos h0, e1, e2, e3, fig_spec (bt s i / 16) (by omega) (by omega), fig_spec (bt s i % 16) (by omega) (by omega), Option.bind_some, List.length_cons, List.length_nil,
      if_pos (show l.length + (0 + 1 + 1) < 140737488355328 by omega), w64 (show -9223372036854775808 ≤ i + 1 by omega) (show i + 1 ≤ 9223372036854775807 by omega)]
    have := ih (i + 1) (l ++ [fig (bt s i / 16), fig (bt s i % 16)]) (by omega) (by omega) (by simp only [List.length_append, List.length_cons, List.length_nil]; omega)
    simpa only [hexL, List.append_assoc, List.cons_append, List.nil_append] using this
def digits : ByteArray := ⟨#[48, 49, 50, 51, 52, 53, 54, 55, 56, 57, 97, 98, 99, 100, 101, 102]⟩
theorem digits_fin : ∀ j : Fin 16, bt digits ((j.val : Nat) : Int) = fig ((j.val : Nat) : Int) := by decide +kernel
theorem digits_at (x : Int) (h0 : 0 ≤ x) (h1 : x < 16) : bt digits x = fig x := by
  obtain ⟨n, rfl⟩ := Int.eq_ofNat_of_zero_le h0
  exact digits_fin ⟨n, by omega⟩
theorem digits_size : (digits.size : Int) = 16 := rfl
theorem impl_hex_l0 (s : ByteArray) (hs : s.size ≤ 1048576) (n : Nat) : ∀ (i : Int) (l : List Int), 0 ≤ i → i + n = s.size → l.length = 2 * i → Ev (fun k => impl_Hex.l0 k s digits l i) (strOfNums (l ++ hexL s n i), true) := by
  induction n with
  | zero =>
    intro i l h0 hn hl
    refine Ev.step (fun k => impl_Hex.l0.eq_2 s digits l i k) ?_
    simp only [if_neg (show ¬ i < (s.size : Int) by omega), hexL, List.append_nil]
    exact Ev.now _
  | succ n ih =>
    intro i l h0 hn hl
    obtain ⟨c0, c1⟩ := bt_lt s i
    have e1 : Go.bits .and .u8 (bt s i) 15 = bt s i % 16 := u8_and15 _ c0 c1
    refine Ev.step (fun k => impl_Hex.l0.eq_2 s digits l i k) ?_
    simp only [if_pos (show i < (s.size : Int) by omega), if_pos h0, e1, digits_size, if_pos (show 0 ≤ bt s i / 16 by omega), if_pos (show bt s i / 16 < 16 by omega), if_pos (show 0 ≤ bt s i % 16 by omega), if_pos (show bt s i % 16 < 16 by omega), digits_at (bt s i / 16) (by omega) (by omega), digits_at (bt s i % 16) (by omega) (by omega), Option.bind_some, List.length_cons, List.length_nil,
      if_pos (show l.length + (0 + 1 + 1) < 140737488355328 by omega), w64 (show -9223372036854775808 ≤ i + 1 by omega) (show i + 1 ≤ 9223372036854775807 by omega)]
    have := ih (i + 1) (l ++ [fig (bt s i / 16), fig (bt s i % 16)]) (by omega) (by omega) (by simp only [List.length_append, List.length_cons, List.length_nil]; omega)
    simpa only [hexL, List.append_assoc, List.cons_append, List.nil_append] using this
def hexR (s : ByteArray) : ByteArray × Bool := if (s.size : Int) > 12000 then ((⟨#[]⟩ : ByteArray), false) else (strOfNums (hexL s s.size 0), true)
theorem spec_hex (s : ByteArray) : Ev (fun k => spec_Hex.f k s) (hexR s) := by
  unfold spec_Hex.f hexR
  by_cases h : (s.size : Int) > 12000
  · simp only [if_pos h]
    exact Ev.now _
  · simp only [if_neg h]
    exact spec_hex_l0 s (by omega) s.size 0 [] (by omega) (by omega) rfl
theorem impl_hex (s : ByteArray) : Ev (fun k => impl_Hex.f k s) (hexR s) := by
  unfold impl_Hex.f hexR
  by_cases h : (s.size : Int) > 12000
  · simp only [if_pos h]
    exact Ev.now _
  · simp only [if_neg h]
    exact impl_hex_l0 s (by omega) s.size 0 [] (by omega) (by omega) rfl
end Hex
theorem FnExactHex : laws_FnExactHex.Pure := by
  intro s hs
  refine Ev.rounds ?_
  unfold laws_FnExactHex.f
  by_cases hb : (s.size : Int) > 1048576
  · simp only [if_pos hb]
    exact Ev.now _
  · simp only [if_neg hb]
    refine Ev.bind (Hex.spec_hex s) ?_
    refine Ev.bind (Hex.impl_hex s) ?_
    simp only [if_true, bne_self_eq_false, Bool.false_eq_true, if_false]
    exact Ev.now _
end Go.Proofs.Ytdehgboeinjodaa.Pure
