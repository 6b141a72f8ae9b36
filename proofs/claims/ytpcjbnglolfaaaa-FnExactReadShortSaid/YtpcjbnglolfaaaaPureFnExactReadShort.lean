/- The program's ReadShort and the reference's give one answer, for every text and every place. -/
import Derived.Test.YtpcjbnglolfaaaaPFnExactReadShortx2
import Derived.Test.YtpcjbnglolfaaaaReadLib
namespace Go.Proofs.Ytpcjbnglolfaaaa.Pure
open Go.RowKit Go.Proofs.Ytpcjbnglolfaaaa.PFnExactReadShort Go.Proofs.YtpcjbnglolfaaaaW.PrintWords Go.Proofs.YtpcjbnglolfaaaaW.PrintLast Go.Proofs.Ytpcjbnglolfaaaa.Lib
set_option linter.unusedSimpArgs false
set_option linter.unusedVariables false
namespace ReadShort
theorem spec_var_l0 (d : Nat) : ∀ (n : Nat) (l : List Int), n < 128 ^ (d + 1) → n ≤ 9223372036854775807 → l.length + d ≤ 1000 →
    Ev (fun k => spec_l01Var.l0 k (n : Int) l) (strOfNums (l ++ varB n)) := by
  induction d with
  | zero =>
    intro n l hn hb hl
    refine Ev.step (fun k => spec_l01Var.l0.eq_2 (n : Int) l k) ?_
    have hn' : n < 128 := by simpa using hn
    have hm : (n : Int) % 256 = n := by omega
    simp only [if_neg (show ¬ (n : Int) > 127 by omega), if_pos (show l.length < 140737488355328 by omega), varB_small hn', hm]
    exact Ev.now _
  | succ d ih =>
    intro n l hn hb hl
    refine Ev.step (fun k => spec_l01Var.l0.eq_2 (n : Int) l k) ?_
    by_cases h : n < 128
    · have hm : (n : Int) % 256 = n := by omega
      simp only [if_neg (show ¬ (n : Int) > 127 by omega), if_pos (show l.length < 140737488355328 by omega), varB_small h, hm]
      exact Ev.now _
    · have hq : n / 128 < 128 ^ (d + 1) := by
        rw [Nat.div_lt_iff_lt_mul (by decide)]
        rw [Nat.pow_succ] at hn
        exact hn
      have ht : Int.tmod (n : Int) 128 = ((n % 128 : Nat) : Int) := by
        rw [Int.tmod_eq_emod_of_nonneg (by omega)]
        omega
      have hdv : wrap64 (Int.tdiv (n : Int) 128) = ((n / 128 : Nat) : Int) := by
        rw [Int.tdiv_eq_ediv_of_nonneg (by omega)]
        unfold wrap64
        omega
      have hby : wrap64 (((n % 128 : Nat) : Int) + 128) % 256 = ((n % 128 + 128 : Nat) : Int) := by
        unfold wrap64
        omega
      simp only [if_pos (show (n : Int) > 127 by omega), if_pos (show l.length < 140737488355328 by omega), varB_great h, ht, hdv, hby]
      have := ih (n / 128) (l ++ [((n % 128 + 128 : Nat) : Int)]) hq (by omega) (by simp only [List.length_append, List.length_cons, List.length_nil]; omega)
      simpa only [List.append_assoc, List.cons_append, List.nil_append] using this
theorem spec_var (n : Nat) (hn : n ≤ 9223372036854775807) : Ev (fun k => spec_l01Var.f k (n : Int)) (strOfNums (varB n)) := by
  unfold spec_l01Var.f
  exact spec_var_l0 9 n [] (Nat.lt_of_le_of_lt hn (by decide)) hn (by decide)
theorem spec_in (a b c : Int) : spec_l01In.f a b c = some (decide (b ≤ a ∧ a ≤ c)) := by
  unfold spec_l01In.f
  by_cases h : a ≥ b
  · rw [if_pos h]
    congr 1
    simp only [show b ≤ a from h, true_and]
  · rw [if_neg h, decide_eq_false (by omega)]
theorem pow128 (i : Nat) (h : i ≤ 4) : (128 : Int) ^ i ≤ 268435456 ∧ 1 ≤ (128 : Int) ^ i := by
  have h' : i = 0 ∨ i = 1 ∨ i = 2 ∨ i = 3 ∨ i = 4 := by omega
  rcases h' with rfl | rfl | rfl | rfl | rfl <;> decide
theorem steps {c v u : Int} (c0 : 0 ≤ c) (c1 : c < 256) (v0 : 0 ≤ v) (v1 : v < u) (u1 : u ≤ 268435456) :
    wrap64 c = c ∧ Int.tmod c 128 = c % 128 ∧ wrap64 (c % 128 * u) = c % 128 * u ∧ wrap64 (v + c % 128 * u) = v + c % 128 * u ∧ wrap64 (u * 128) = u * 128 := by
  have q0 : 0 ≤ c % 128 * u := Int.mul_nonneg (by omega) (by omega)
  have q1 : c % 128 * u ≤ 127 * u := Int.mul_le_mul_of_nonneg_right (by omega) (by omega)
  refine ⟨w64 (by omega) (by omega), Int.tmod_eq_emod_of_nonneg c0, w64 (by omega) (by omega), w64 (by omega) (by omega), w64 (by omega) (by omega)⟩
theorem small_nat {v : Int} (h : ¬ v > 1000000000) : v.toNat ≤ 9223372036854775807 := by omega
theorem ge_of_not {c : Int} (h : ¬ c < 128) : c ≥ 128 := by omega
theorem not_ge_of {c : Int} (h : c < 128) : ¬ c ≥ 128 := by omega
/-- The two readers, from round i on, come to one answer. -/
theorem read_l0 (s : ByteArray) (hs : s.size ≤ 140737488351232) (a : Nat) (ha : a ≤ s.size) (d : Nat) : ∀ i : Nat, i + d = 5 → (∀ b ∈ pref s a i, 128 ≤ b ∧ b < 256) →
    ∃ r, Ev (fun k => spec_ReadVar.l0 k s (a : Int) (val (pref s a i)) (128 ^ i) ((a + i : Nat) : Int)) r ∧ Ev (fun k => impl_ReadVar.l0 k s (a : Int) (val (pref s a i)) (128 ^ i) (i : Int)) r ∧ (r.2.2 = true → 0 ≤ r.1 ∧ 0 ≤ r.2.1 ∧ r.2.1 ≤ (s.size : Int)) := by
  induction d with
  | zero =>
    intro i hi _
    obtain rfl : i = 5 := by omega
    refine ⟨(0, 0, false), ?_, ?_, fun h => by cases h⟩
    · refine Ev.step (fun k => spec_ReadVar.l0.eq_2 s (a : Int) _ _ _ k) ?_
      have hf : decide (((a + 5 : Nat) : Int) < wrap64 ((a : Int) + 5)) = false := by
        rw [w64 (by omega) (by omega)]
        exact decide_eq_false (by omega)
      simp only [hf, ite_self]
      refine Ev.step (fun k => spec_ReadVar.j1.eq_2 s (a : Int) _ _ _ false k) ?_
      simp only [Bool.false_eq_true, if_false]
      exact Ev.now _
    · refine Ev.step (fun k => impl_ReadVar.l0.eq_2 s (a : Int) _ _ _ k) ?_
      simp only [if_neg (show ¬ ((5 : Nat) : Int) < 5 by omega)]
      refine Ev.step (fun k => impl_ReadVar.j2.eq_2 s (a : Int) _ _ _ false k) ?_
      simp only [Bool.false_eq_true, if_false]
      exact Ev.now _
  | succ d ih =>
    intro i hi hall
    have hw5 : decide (((a + i : Nat) : Int) < wrap64 ((a : Int) + 5)) = true := by
      rw [w64 (by omega) (by omega)]
      exact decide_eq_true (by omega)
    have hwi : wrap64 ((a : Int) + (i : Int)) = ((a + i : Nat) : Int) := by
      rw [w64 (by omega) (by omega)]
      omega
    have g3 : (i : Int) < 5 := by omega
    have g2 : (0 : Int) ≤ ((a + i : Nat) : Int) := by omega
    have g4 : (0 : Int) ≤ (a : Int) := by omega
    have g5 : (a : Int) ≤ ((a + (i + 1) : Nat) : Int) := by omega
    have gi : i + 1 + d = 5 := by omega
    have gp : i = 0 ∨ (i : Int) > 0 := by omega
    have e6 : wrap64 (((a + i : Nat) : Int) + 1) = ((a + (i + 1) : Nat) : Int) := by
      rw [w64 (by omega) (by omega)]
      omega
    have e7 : wrap64 ((i : Int) + 1) = ((i + 1 : Nat) : Int) := by
      rw [w64 (by omega) (by omega)]
      omega
    obtain ⟨p1, p2⟩ := pow128 i (by omega)
    by_cases hlt : a + i < s.size
    · have g1 : ((a + i : Nat) : Int) < (s.size : Int) := by omega
      have g6 : ((a + (i + 1) : Nat) : Int) ≤ (s.size : Int) := by omega
      have g7 : a + (i + 1) ≤ s.size := by omega
      obtain ⟨c0, c1⟩ := bt_lt s ((a + i : Nat) : Int)
      have v1 := val_lt (pref s a i)
      have vs := val_snoc (pref s a i) (bt s ((a + i : Nat) : Int))
      rw [pref_length] at v1 vs
      rw [← pref_succ] at vs
      obtain ⟨e1, e2, e3, e4, e5⟩ := steps c0 c1 (val_nonneg (pref s a i)) v1 p1
      replace e4 := e4.trans vs.symm
      replace e5 := e5.trans (Int.pow_succ 128 i).symm
      clear v1 p1 p2 vs
      by_cases hc : bt s ((a + i : Nat) : Int) < 128
      · -- the last byte
        have hcan := canon (bt s ((a + i : Nat) : Int)) c0 hc (pref s a i) hall
        rw [← pref_succ] at hcan
        have w0 := val_nonneg (pref s a (i + 1))
        have hS : ∀ r : Int × Int × Bool, (if val (pref s a (i + 1)) > 1000000000 then (0, 0, false) else if bt s ((a + i : Nat) : Int) ≠ 0 ∨ pref s a i = [] then (val (pref s a (i + 1)), ((a + (i + 1) : Nat) : Int), true) else (0, 0, false)) = r →
            Ev (fun k => spec_ReadVar.l0 k s (a : Int) (val (pref s a i)) (128 ^ i) ((a + i : Nat) : Int)) r := by
          intro r hr
          refine Ev.step (fun k => spec_ReadVar.l0.eq_2 s (a : Int) _ _ _ k) ?_
          simp only [if_pos g1, hw5]
          refine Ev.step (fun k => spec_ReadVar.j1.eq_2 s (a : Int) _ _ _ true k) ?_
          simp only [if_true, if_pos g2, if_pos g1, if_pos hc, e1, e2, e3, e4, e6]
          by_cases hg : val (pref s a (i + 1)) > 1000000000
          · rw [if_pos hg] at hr
            simp only [if_pos hg, ← hr]
            exact Ev.now _
          · rw [if_neg hg] at hr
            simp only [if_neg hg]
            have hv := spec_var (val (pref s a (i + 1))).toNat (small_nat hg)
            rw [Int.toNat_of_nonneg w0] at hv
            refine Ev.bind hv ?_
            simp only [if_pos g4, if_pos g5, if_pos g6, Int.toNat_natCast]
            have hn := nums_eq (varB (val (pref s a (i + 1))).toNat) (varB_range _) (s.extract a (a + (i + 1)))
            rw [ints_ext s a (i + 1) g7, hcan] at hn
            by_cases hx : bt s ((a + i : Nat) : Int) ≠ 0 ∨ pref s a i = []
            · rw [if_pos hx] at hr
              simp only [if_pos (hn.2 hx), ← hr]
              exact Ev.now _
            · rw [if_neg hx] at hr
              simp only [if_neg (fun y => hx (hn.1 y)), ← hr]
              exact Ev.now _
        refine ⟨_, hS _ rfl, ?_, ?_⟩
        rotate_left
        · intro hr
          split at hr
          · cases hr
          · split at hr
            · rename_i hg hx
              simp only [if_neg hg, if_pos hx]
              exact ⟨w0, Int.natCast_nonneg _, g6⟩
            · cases hr
        refine Ev.step (fun k => impl_ReadVar.l0.eq_2 s (a : Int) _ _ _ k) ?_
        simp only [if_pos g3, hwi, decide_eq_true g1]
        refine Ev.step (fun k => impl_ReadVar.j2.eq_2 s (a : Int) _ _ _ true k) ?_
        simp only [if_true, hwi, if_pos g2, if_pos g1, e1, e2, e3, e4, e6, if_neg (not_ge_of hc)]
        by_cases hg : val (pref s a (i + 1)) > 1000000000
        · simp only [if_pos hg, ite_self]
          exact Ev.now _
        · simp only [if_neg hg]
          by_cases hz : bt s ((a + i : Nat) : Int) = 0
          · by_cases hi0 : i = 0
            · subst hi0
              simp only [if_pos hz, if_neg (show ¬ ((0 : Nat) : Int) > 0 by decide)]
              have hx : bt s ((a + 0 : Nat) : Int) ≠ 0 ∨ pref s a 0 = [] := .inr rfl
              simp only [if_pos hx]
              exact Ev.now _
            · have hx : ¬ (bt s ((a + i : Nat) : Int) ≠ 0 ∨ pref s a i = []) := by
                rintro (h | h)
                · exact h hz
                · have := congrArg List.length h
                  rw [pref_length] at this
                  exact hi0 this
              simp only [if_pos hz, if_pos (gp.resolve_left hi0), if_neg hx]
              exact Ev.now _
          · have hx : bt s ((a + i : Nat) : Int) ≠ 0 ∨ pref s a i = [] := .inl hz
            simp only [if_neg hz, if_pos hx]
            exact Ev.now _
      · obtain ⟨r, h1, h2, h3⟩ := ih (i + 1) gi (by
          rw [pref_succ]
          intro b hb
          rcases List.mem_append.1 hb with hb | hb
          · exact hall b hb
          · rw [List.mem_singleton] at hb
            subst hb
            exact ⟨ge_of_not hc, c1⟩)
        refine ⟨r, ?_, ?_, h3⟩
        · refine Ev.step (fun k => spec_ReadVar.l0.eq_2 s (a : Int) _ _ _ k) ?_
          simp only [if_pos g1, hw5]
          refine Ev.step (fun k => spec_ReadVar.j1.eq_2 s (a : Int) _ _ _ true k) ?_
          simp only [if_true, if_pos g2, if_pos g1, if_neg hc, e1, e2, e3, e4, e5, e6]
          exact h1
        · refine Ev.step (fun k => impl_ReadVar.l0.eq_2 s (a : Int) _ _ _ k) ?_
          simp only [if_pos g3, hwi, decide_eq_true g1]
          refine Ev.step (fun k => impl_ReadVar.j2.eq_2 s (a : Int) _ _ _ true k) ?_
          simp only [if_true, hwi, if_pos g2, if_pos g1, e1, e2, e3, e4, e5, e7, if_pos (ge_of_not hc)]
          exact h2
    · refine ⟨(0, 0, false), ?_, ?_, fun h => by cases h⟩
      · refine Ev.step (fun k => spec_ReadVar.l0.eq_2 s (a : Int) _ _ _ k) ?_
        simp only [if_neg (show ¬ ((a + i : Nat) : Int) < (s.size : Int) by omega)]
        refine Ev.step (fun k => spec_ReadVar.j1.eq_2 s (a : Int) _ _ _ false k) ?_
        simp only [Bool.false_eq_true, if_false]
        exact Ev.now _
      · refine Ev.step (fun k => impl_ReadVar.l0.eq_2 s (a : Int) _ _ _ k) ?_
        simp only [if_pos g3, hwi, decide_eq_false (show ¬ ((a + i : Nat) : Int) < (s.size : Int) by omega)]
        refine Ev.step (fun k => impl_ReadVar.j2.eq_2 s (a : Int) _ _ _ false k) ?_
        simp only [Bool.false_eq_true, if_false]
        exact Ev.now _
theorem read_both (s : ByteArray) (hs : s.size ≤ 140737488351232) (at' : Int) : ∃ r, Ev (fun k => spec_ReadVar.f k s at') r ∧ Ev (fun k => impl_ReadVar.f k s at') r ∧ (r.2.2 = true → 0 ≤ r.1 ∧ 0 ≤ r.2.1 ∧ r.2.1 ≤ (s.size : Int)) := by
  unfold spec_ReadVar.f impl_ReadVar.f
  simp only [spec_in, Option.bind_some]
  by_cases h : 0 ≤ at' ∧ at' ≤ (s.size : Int)
  · obtain ⟨a, rfl⟩ := Int.eq_ofNat_of_zero_le h.1
    obtain ⟨r, h1, h2, h3⟩ := read_l0 s hs a (by omega) 5 0 (by omega) (by simp [pref])
    have p0 : val (pref s a 0) = 0 := rfl
    rw [p0] at h1 h2
    refine ⟨r, ?_, ?_, h3⟩
    · simp only [decide_eq_true h, if_true]
      exact h1
    · simp only [if_neg (show ¬ (a : Int) < 0 by omega), decide_eq_false (show ¬ (a : Int) > (s.size : Int) by omega)]
      refine Ev.step (fun k => impl_ReadVar.j0.eq_2 s (a : Int) false k) ?_
      simp only [Bool.false_eq_true, if_false]
      exact h2
  · refine ⟨(0, 0, false), ?_, ?_, fun h => by cases h⟩
    · simp only [decide_eq_false h, Bool.false_eq_true, if_false]
      exact Ev.now _
    · have H : Ev (fun k => impl_ReadVar.j0 k s at' true) (0, 0, false) := by
        refine Ev.step (fun k => impl_ReadVar.j0.eq_2 s at' true k) ?_
        simp only [if_true]
        exact Ev.now _
      by_cases h0 : at' < 0
      · simp only [if_pos h0]
        exact H
      · simp only [if_neg h0, decide_eq_true (show at' > (s.size : Int) by omega)]
        exact H
end ReadShort
theorem FnExactReadShort : laws_FnExactReadShort.Pure := by
  intro s a hs _
  refine Ev.rounds ?_
  unfold laws_FnExactReadShort.f
  by_cases hb : (s.size : Int) > 1048576
  · simp only [if_pos hb]
    exact Ev.now _
  · simp only [if_neg hb]
    unfold spec_ReadShort.f impl_ReadShort.f
    obtain ⟨⟨n, next, ok⟩, h1, h2, h3⟩ := ReadShort.read_both s hs a
    simp only [Option.bind_assoc]
    refine Ev.bind h1 ?_
    cases ok with
    | false =>
      simp only [Bool.false_eq_true, if_false, Option.bind_some]
      refine Ev.bind h2 ?_
      simp only [Bool.false_eq_true, if_false, Option.bind_some, if_true, bne_self_eq_false]
      exact Ev.now _
    | true =>
      obtain ⟨g1, g2, g3⟩ : 0 ≤ n ∧ 0 ≤ next ∧ next ≤ (s.size : Int) := h3 rfl
      simp only [if_true]
      by_cases hn : n > 12000
      · simp only [if_pos hn, Option.bind_some]
        refine Ev.bind h2 ?_
        simp only [if_true, if_pos hn, Option.bind_some, bne_self_eq_false, Bool.false_eq_true, if_false]
        exact Ev.now _
      · have e1 : wrap64 ((s.size : Int) - next) = (s.size : Int) - next := w64 (by omega) (by omega)
        have e2 : wrap64 (next + n) = next + n := w64 (by omega) (by omega)
        simp only [if_neg hn, e1, e2]
        by_cases hm : n > (s.size : Int) - next
        · simp only [if_pos hm, Option.bind_some]
          refine Ev.bind h2 ?_
          simp only [if_true, if_neg hn, e1, if_pos hm, Option.bind_some, bne_self_eq_false, Bool.false_eq_true, if_false]
          exact Ev.now _
        · have k1 : (0 : Int) ≤ next := g2
          have k2 : next ≤ next + n := by omega
          have k3 : next + n ≤ (s.size : Int) := by omega
          simp only [if_neg hm, if_pos k1, if_pos k2, if_pos k3, Option.bind_some]
          refine Ev.bind h2 ?_
          simp only [if_true, if_neg hn, e1, e2, if_neg hm, if_pos k1, if_pos k2, if_pos k3, Option.bind_some, bne_self_eq_false, Bool.false_eq_true, if_false]
          exact Ev.now _
end Go.Proofs.Ytpcjbnglolfaaaa.Pure
