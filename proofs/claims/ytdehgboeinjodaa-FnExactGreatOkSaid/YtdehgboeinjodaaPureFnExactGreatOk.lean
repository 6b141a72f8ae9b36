/- The program's GreatOk and the reference's give one answer, for every text. -/
import Derived.Test.YtdehgboeinjodaaPFnExactGreatOkx2
import Derived.Test.YtdehgboeinjodaaBytes
namespace Go.Proofs.Ytdehgboeinjodaa.Pure
open Go.RowKit Go.Proofs.Ytdehgboeinjodaa.PFnExactGreatOk Go.Proofs.YtdehgboeinjodaaW.PrintWords Go.Proofs.YtdehgboeinjodaaW.PrintLast Go.Proofs.Ytdehgboeinjodaa.Lib
set_option linter.unusedSimpArgs false
set_option linter.unusedVariables false
namespace GreatOk
/-- n bytes from place i on are figures. -/
def digs (s : ByteArray) : Nat → Int → Bool
  | 0, _ => true
  | n + 1, i => if bt s i < 48 then false else if bt s i > 57 then false else digs s n (i + 1)
theorem spec_l0 (s : ByteArray) (hs : s.size ≤ 140737488351232) (n : Nat) : ∀ i : Int, 0 ≤ i → i + n = s.size → Ev (fun k => spec_GreatOk.l0 k s i) (digs s n i) := by
  induction n with
  | zero =>
    intro i h0 hn
    refine Ev.step (fun k => spec_GreatOk.l0.eq_2 s i k) ?_
    simp only [if_neg (show ¬ i < (s.size : Int) by omega)]
    exact Ev.now _
  | succ n ih =>
    intro i h0 hn
    refine Ev.step (fun k => spec_GreatOk.l0.eq_2 s i k) ?_
    simp only [if_pos (show i < (s.size : Int) by omega), if_pos h0, digs]
    by_cases h1 : bt s i < 48
    · simp only [if_pos h1]
      exact Ev.now _
    · by_cases h2 : bt s i > 57
      · simp only [if_neg h1, if_pos h2]
        exact Ev.now _
      · simp only [if_neg h1, if_neg h2]
        rw [w64 (by omega) (by omega)]
        exact ih (i + 1) (by omega) (by omega)
theorem impl_l0 (a s : ByteArray) (hs : s.size ≤ 140737488351232) (h1 : 1 ≤ s.size) (n : Nat) : ∀ i : Int, 0 ≤ i → i + n = s.size →
    Ev (fun k => impl_GreatOk.l0 k a s i) (digs s n i && (decide (a.toList = ([48] : List UInt8)) || (bt s 0 != 48))) := by
  induction n with
  | zero =>
    intro i h0 hn
    refine Ev.step (fun k => impl_GreatOk.l0.eq_2 a s i k) ?_
    simp only [if_neg (show ¬ i < (s.size : Int) by omega), if_pos (show (0 : Int) < (s.size : Int) by omega), digs, Bool.true_and]
    by_cases h : a.toList = ([48] : List UInt8)
    · simp only [if_pos h, decide_eq_true h, Bool.true_or]
      exact Ev.now _
    · simp only [if_neg h, decide_eq_false h, Bool.false_or]
      exact Ev.now _
  | succ n ih =>
    intro i h0 hn
    refine Ev.step (fun k => impl_GreatOk.l0.eq_2 a s i k) ?_
    simp only [if_pos (show i < (s.size : Int) by omega), if_pos h0, digs]
    by_cases h1 : bt s i < 48
    · simp only [if_pos h1, Bool.false_and]
      exact Ev.now _
    · by_cases h2 : bt s i > 57
      · simp only [if_neg h1, if_pos h2, Bool.false_and]
        exact Ev.now _
      · simp only [if_neg h1, if_neg h2]
        rw [w64 (by omega) (by omega)]
        exact ih (i + 1) (by omega) (by omega)
/-- The figures of a text. -/
def figs (a : ByteArray) : ByteArray := if 0 < a.size ∧ bt a 0 = 45 then a.extract 1 a.size else a
def res (a : ByteArray) : Bool := decide (1 ≤ (figs a).size ∧ (figs a).size ≤ 120) && (digs (figs a) (figs a).size 0 && (decide (a.toList = ([48] : List UInt8)) || (bt (figs a) 0 != 48)))
theorem figs_size (a : ByteArray) : (figs a).size ≤ a.size := by
  unfold figs
  split
  · rw [ext_size _ _ _ (Nat.le_refl _)]
    omega
  · exact Nat.le_refl _
theorem trim_eq (a : ByteArray) : strings_TrimPrefix.f a (⟨#[45]⟩ : ByteArray) = some (figs a) := by
  have e1 : ((⟨#[45]⟩ : ByteArray).size : Int) = 1 := rfl
  have e2 : (⟨#[45]⟩ : ByteArray).toList = [45] := by rw [ByteArray.toList_eq]
  unfold strings_TrimPrefix.f stringslite_TrimPrefix.f stringslite_HasPrefix.f figs
  simp only [e1, e2]
  by_cases h : 0 < a.size
  · have h1 : (a.size : Int) ≥ 1 := by omega
    have ho := one_list (a.extract 0 1) 45
    have hz := ext_size a 0 1 (by omega)
    have hb : bt (a.extract 0 1) 0 = bt a 0 := ext_bt a 0 1 0 (by omega)
    have h45 : (((45 : UInt8).toNat : Nat) : Int) = 45 := rfl
    rw [hz, hb, h45] at ho
    by_cases hc : bt a 0 = 45
    · have hl : (a.extract 0 (Int.toNat 1)).toList = [45] := ho.2 ⟨rfl, hc⟩
      simp only [if_pos h1, hl, hc, h, if_true, and_self, Option.bind_some, beq_self_eq_true, show (0 : Int) ≤ 1 by omega, show (1 : Int) ≤ (a.size : Int) by omega]
      rfl
    · have hl : ((a.extract 0 (Int.toNat 1)).toList == [45]) = false := by
        rw [beq_eq_false_iff_ne]
        exact fun e => hc (ho.1 e).2
      simp only [if_pos h1, hl, hc, and_false, if_true, if_false, Bool.false_eq_true, Option.bind_some, show (0 : Int) ≤ 1 by omega, show (1 : Int) ≤ (a.size : Int) by omega]
  · simp only [if_neg (show ¬ (a.size : Int) ≥ 1 by omega), Option.bind_some, Bool.false_eq_true, if_false, if_neg (show ¬ (0 < a.size ∧ bt a 0 = 45) by omega)]
theorem impl_ok (a : ByteArray) (hs : a.size ≤ 140737488351232) : Ev (fun k => impl_GreatOk.f k a) (res a) := by
  unfold impl_GreatOk.f impl_inRange.f
  have hf := figs_size a
  simp only [trim_eq, Option.bind_some]
  unfold res
  by_cases h1 : 1 ≤ (figs a).size
  · by_cases h2 : (figs a).size ≤ 120
    · simp only [if_pos (show ((figs a).size : Int) ≥ 1 by omega), decide_eq_true (show ((figs a).size : Int) ≤ 120 by omega), Option.bind_some, if_true, h1, h2, and_self, decide_true, Bool.true_and]
      exact impl_l0 a (figs a) (by omega) h1 (figs a).size 0 (by omega) (by omega)
    · simp only [if_pos (show ((figs a).size : Int) ≥ 1 by omega), decide_eq_false (show ¬ ((figs a).size : Int) ≤ 120 by omega), Option.bind_some, Bool.false_eq_true, if_false, h2, and_false, decide_false, Bool.false_and]
      exact Ev.now _
  · simp only [if_neg (show ¬ ((figs a).size : Int) ≥ 1 by omega), Option.bind_some, Bool.false_eq_true, if_false, h1, false_and, decide_false, Bool.false_and]
    exact Ev.now _
theorem spec_j1 (s : ByteArray) (hs : s.size ≤ 140737488351232) : Ev (fun k => spec_GreatOk.j1 k s)
    (decide (1 ≤ s.size ∧ s.size ≤ 120) && (!(decide (s.size > 1) && (bt s 0 == 48)) && digs s s.size 0)) := by
  refine Ev.step (fun k => spec_GreatOk.j1.eq_2 s k) ?_
  have H : ∀ b : Bool, Ev (fun k => spec_GreatOk.j2 k s b) (!b && digs s s.size 0) := by
    intro b
    refine Ev.step (fun k => spec_GreatOk.j2.eq_2 s b k) ?_
    cases b
    · simp only [Bool.false_eq_true, if_false, Bool.not_false, Bool.true_and]
      exact spec_l0 s hs s.size 0 (by omega) (by omega)
    · simp only [if_true, Bool.not_true, Bool.false_and]
      exact Ev.now _
  unfold spec_l01In.f
  by_cases h1 : 1 ≤ s.size
  · by_cases h2 : s.size ≤ 120
    · simp only [if_pos (show (s.size : Int) ≥ 1 by omega), decide_eq_true (show (s.size : Int) ≤ 120 by omega), Option.bind_some, if_true, h1, h2, and_self, decide_true, Bool.true_and]
      by_cases h3 : s.size > 1
      · simp only [if_pos (show (s.size : Int) > 1 by omega), if_pos (show (0 : Int) < (s.size : Int) by omega), h3, decide_true, Bool.true_and]
        exact H _
      · simp only [if_neg (show ¬ (s.size : Int) > 1 by omega), h3, decide_false, Bool.false_and]
        exact H _
    · simp only [if_pos (show (s.size : Int) ≥ 1 by omega), decide_eq_false (show ¬ (s.size : Int) ≤ 120 by omega), Option.bind_some, Bool.false_eq_true, if_false, h2, and_false, decide_false, Bool.false_and]
      exact H true
  · simp only [if_neg (show ¬ (s.size : Int) ≥ 1 by omega), Option.bind_some, Bool.false_eq_true, if_false, h1, false_and, decide_false, Bool.false_and]
    exact H true
theorem spec_ok (a : ByteArray) (hs : a.size ≤ 140737488351232) : Ev (fun k => spec_GreatOk.f k a) (res a) := by
  have hf := figs_size a
  have ho := one_list a 48
  have ho' := one_list (figs a) 48
  have h48 : (((48 : UInt8).toNat : Nat) : Int) = 48 := rfl
  rw [h48] at ho ho'
  unfold spec_GreatOk.f
  by_cases h : 0 < a.size ∧ bt a 0 = 45
  · obtain ⟨h1, h2⟩ := h
    have e : figs a = a.extract 1 a.size := by
      unfold figs
      rw [if_pos ⟨h1, h2⟩]
    have hne : decide (a.toList = ([48] : List UInt8)) = false := decide_eq_false fun x => by have := (ho.1 x).2; omega
    simp only [if_pos (show (a.size : Int) > 0 by omega), if_pos (show (0 : Int) < (a.size : Int) by omega), h2, beq_self_eq_true]
    refine Ev.step (fun k => spec_GreatOk.j0.eq_2 a true k) ?_
    simp only [if_true, if_pos (show (1 : Int) ≤ (a.size : Int) by omega), ← e]
    by_cases hz : (figs a).toList = [48]
    · obtain ⟨hz1, hz2⟩ := ho'.1 hz
      simp only [if_pos hz]
      have er : res a = false := by
        unfold res
        simp [hz1, hz2, hne]
      rw [er]
      exact Ev.now _
    · simp only [if_neg hz]
      have er : res a = (decide (1 ≤ (figs a).size ∧ (figs a).size ≤ 120) && (!(decide ((figs a).size > 1) && (bt (figs a) 0 == 48)) && digs (figs a) (figs a).size 0)) := by
        unfold res
        by_cases h1 : 1 ≤ (figs a).size
        · by_cases h3 : (figs a).size > 1
          · simp only [hne, h3, decide_true, Bool.true_and, Bool.false_or]
            rw [Bool.and_comm (digs _ _ _)]
            rfl
          · have hb : bt (figs a) 0 ≠ 48 := fun x => hz (ho'.2 ⟨by omega, x⟩)
            have hb' : (bt (figs a) 0 != 48) = true := by simp [hb]
            simp only [hne, h3, decide_false, Bool.false_and, Bool.not_false, Bool.true_and, Bool.false_or, hb', Bool.and_true]
        · simp [h1]
      rw [er]
      exact spec_j1 (figs a) (by omega)
  · have e : figs a = a := by
      unfold figs
      rw [if_neg h]
    have H : Ev (fun k => spec_GreatOk.j0 k a false) (res a) := by
      refine Ev.step (fun k => spec_GreatOk.j0.eq_2 a false k) ?_
      simp only [Bool.false_eq_true, if_false]
      have er : res a = (decide (1 ≤ a.size ∧ a.size ≤ 120) && (!(decide (a.size > 1) && (bt a 0 == 48)) && digs a a.size 0)) := by
        unfold res
        rw [e]
        by_cases h1 : 1 ≤ a.size
        · by_cases h3 : a.size > 1
          · have hne : decide (a.toList = ([48] : List UInt8)) = false := decide_eq_false fun x => by have := (ho.1 x).1; omega
            simp only [hne, h3, decide_true, Bool.true_and, Bool.false_or]
            rw [Bool.and_comm (digs _ _ _)]
            rfl
          · have hb : (decide (a.toList = ([48] : List UInt8)) || (bt a 0 != 48)) = true := by
              by_cases hc : bt a 0 = 48
              · rw [decide_eq_true (ho.2 ⟨by omega, hc⟩)]
                rfl
              · simp [hc]
            simp only [hb, h3, decide_false, Bool.false_and, Bool.not_false, Bool.true_and, Bool.and_true]
        · simp [h1]
      rw [er]
      exact spec_j1 a hs
    by_cases h1 : 0 < a.size
    · have hc : (bt a 0 == 45) = false := by
        rw [beq_eq_false_iff_ne]
        exact fun x => h ⟨h1, x⟩
      simp only [if_pos (show (a.size : Int) > 0 by omega), if_pos (show (0 : Int) < (a.size : Int) by omega), hc]
      exact H
    · simp only [if_neg (show ¬ (a.size : Int) > 0 by omega)]
      exact H
end GreatOk
theorem FnExactGreatOk : laws_FnExactGreatOk.Pure := by
  intro s hs
  refine Ev.rounds ?_
  unfold laws_FnExactGreatOk.f
  by_cases hb : (s.size : Int) > 1048576
  · simp only [if_pos hb]
    exact Ev.now _
  · simp only [if_neg hb]
    refine Ev.bind (GreatOk.spec_ok s hs) ?_
    refine Ev.bind (GreatOk.impl_ok s hs) ?_
    simp only [bne_self_eq_false, Bool.false_eq_true, if_false]
    exact Ev.now _
end Go.Proofs.Ytdehgboeinjodaa.Pure
