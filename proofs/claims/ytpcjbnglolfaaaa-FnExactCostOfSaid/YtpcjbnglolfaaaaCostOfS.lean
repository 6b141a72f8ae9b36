/- spec.CostOf by hand: a reader of an order, made and asked. -/
import Derived.Test.YtpcjbnglolfaaaaQFnExactCostOfx2
import Derived.Test.YtpcjbnglolfaaaaQFnExactCostOfx1
namespace Go.Proofs.Ytpcjbnglolfaaaa.PFnExactCostOf
open Go.RowKit Go.Proofs.YtpcjbnglolfaaaaW.PrintWords Go.Proofs.YtpcjbnglolfaaaaW.PrintLast Go.Proofs.YtpcjbnglolfaaaaW.PrintMore
attribute [local go_sem] max2_int min2_int max_two min_two max_three min_three max_four min_four   -- for this text's walks alone
set_option linter.unusedVariables false
set_option linter.unusedSimpArgs false
def spec_CostOf.f (k : Nat) (l0 : List Int) (s1 : ByteArray) : Option (Int × Bool) := (spec_DimsOk.f k l0).bind fun t13 => (if t13 = true then (if (s1.size : Int) > 40 then some (0, false) else ((spec_l09Part.f k s1 0 0 0 false l0).bind fun p => (if p.2.2.2.2.2.2 = true then some (0, false) else (if p.2.2.2.1 = (s1.size : Int) then (if p.2.2.2.2.1 = wrap64 ((l0.length : Int) - 1) then some (p.2.2.2.2.2.1, true) else some (0, false)) else some (0, false))))) else (some (0, false)))
theorem spec_CostOf.mono : ∀ a0 a1 k, LeO (spec_CostOf.f k a0 a1) (spec_CostOf.f (k + 1) a0 a1) := by
  intro a0 a1 k
  unfold spec_CostOf.f
  repeat' first
      | (with_reducible exact spec_DimsOk.mono _ _)
      | (with_reducible exact spec_l09Part.mono _ _ _ _ _ _ _)
      | (with_reducible exact LeO.refl _)
      | (with_reducible exact LeO.none _)
      | (with_reducible refine LeO.ite ?_ ?_)
      | (with_reducible refine LeO.bind ?_ (fun _ => ?_))
set_option maxHeartbeats 8000000 in
set_option maxRecDepth 100000 in
theorem spec_CostOf.calls (k : Nat) (A0 : Option Addr) (c0 : Nat) (l0 : List Int) (s1 : ByteArray) (r1 : Int) (r2 : Bool) (w : World) (hr0 : Kd.C (Kd.int .i64) w A0 l0.length l0) (hc0 : l0.length ≤ c0) (h : spec_CostOf.f k l0 s1 = some (r1, r2)) :
    Calls Try.prog 38 #[.slice A0 l0.length c0, .string s1] w fun e w' => e = .returned (.tuple #[.int .i64 r1, .bool r2]) ∧ Below w.heap.size w w' := by
  have HR0 := Aside0.mk hr0
  have HC0 := Aside0.mk hc0
  clear hr0 hc0
  have HB := Aside0.mk (Below.refl w.heap.size w)
  unfold spec_CostOf.f at h
  replace h := Option.bind_eq_some_iff.mp h
  obtain ⟨t13, A20, H⟩ := h
  have A2 := Aside0.mk A20
  clear A20
  cases t13 with
  | true =>
    rw [if_pos rfl] at H
    by_cases g1 : (s1.size : Int) > 40
    · rw [if_pos g1] at H
      simp only [Option.some.injEq, Prod.mk.injEq] at H
      obtain ⟨rfl, rfl⟩ := H
      have c1 : decide ((s1.size : Int) > 40) = true := decide_eq_true g1
      clear g1
      go_enter Try.func38, Try.ntmps38
      go_wp2_with (first | ((with_reducible refine gate_callee (f := 49) rfl ?_); (try (refine gate_guard (by rfl) ?_; dsimp only)); refine goesL_ (some 8) rfl rfl Try.func49 (by kernel_rfl) rfl #[.slice A0 l0.length c0] rfl (by (try simp only [List.map_toArray, List.map_cons, List.map_nil]); first | done | rfl | (simp only [List.length_drop, List.length_take]; rfl)) ?_; (with_reducible refine (spec_DimsOk.calls k _ _ l0 true _ ?side1 ?side2 A2.out).mono ?_); (case side1 => repeat (first | exact HR0.out | (with_reducible refine Kd.C_alloc ?_ _) | (with_reducible refine Kd.C_drewN ?_ _) | (with_reducible refine Kd.C_drew ?_))); (case side2 => exact HC0.out); rintro e wd ⟨rfl, ⟨nd, hnd⟩⟩; refine ⟨_, rfl, ?_⟩; have HRd : Aside0 (Kd.C (Kd.int .i64) wd A0 l0.length l0) := ⟨by rw [hnd]; exact Kd.C_drewN HR0.out _⟩; have HBd : Aside0 (Below w.heap.size w wd) := ⟨by rw [hnd]; exact pw_below_drewN HB.out _⟩; clear hnd))
      go_ret2
      exact ⟨rfl, by repeat (first | (with_reducible first | exact HBd.out | apply below_alloc | apply pw_below_drewN | apply below_drew1) | exact HBd.out)⟩
    rw [if_neg g1] at H
    have c1 : decide ((s1.size : Int) > 40) = false := decide_eq_false g1
    clear g1
    replace H := Option.bind_eq_some_iff.mp H
    obtain ⟨p, A40, H⟩ := H
    obtain ⟨p1, p2, p3, p4, p5, p6, p7⟩ := p
    have A4 := Aside0.mk A40
    clear A40
    have H' : (p7 = true ∧ r1 = 0 ∧ r2 = false) ∨ (p7 = false ∧ ¬ p4 = (s1.size : Int) ∧ r1 = 0 ∧ r2 = false) ∨ (p7 = false ∧ p4 = (s1.size : Int) ∧ p5 = wrap64 ((l0.length : Int) - 1) ∧ r1 = p6 ∧ r2 = true) ∨ (p7 = false ∧ p4 = (s1.size : Int) ∧ ¬ p5 = wrap64 ((l0.length : Int) - 1) ∧ r1 = 0 ∧ r2 = false) := by
      simp only at H
      by_cases e5 : p7 = true
      · rw [if_pos e5] at H; simp only [Option.some.injEq, Prod.mk.injEq] at H; exact .inl ⟨e5, H.1.symm, H.2.symm⟩
      · rw [if_neg e5] at H
        have e5 := Bool.eq_false_iff.mpr e5
        by_cases e3 : p4 = (s1.size : Int)
        · rw [if_pos e3] at H
          by_cases e4 : p5 = wrap64 ((l0.length : Int) - 1)
          · rw [if_pos e4] at H; simp only [Option.some.injEq, Prod.mk.injEq] at H; exact .inr (.inr (.inl ⟨e5, e3, e4, H.1.symm, H.2.symm⟩))
          · rw [if_neg e4] at H; simp only [Option.some.injEq, Prod.mk.injEq] at H; exact .inr (.inr (.inr ⟨e5, e3, e4, H.1.symm, H.2.symm⟩))
        · rw [if_neg e3] at H; simp only [Option.some.injEq, Prod.mk.injEq] at H; exact .inr (.inl ⟨e5, e3, H.1.symm, H.2.symm⟩)
    clear H
    rcases H' with ⟨rfl, rfl, rfl⟩ | ⟨rfl, e3, rfl, rfl⟩ | ⟨rfl, e3, e4, rfl, rfl⟩ | ⟨rfl, e3, e4, rfl, rfl⟩
    · skip
      go_enter Try.func38, Try.ntmps38
      go_wp2_with (first | ((with_reducible refine gate_callee (f := 49) rfl ?_); (try (refine gate_guard (by rfl) ?_; dsimp only)); refine goesL_ (some 8) rfl rfl Try.func49 (by kernel_rfl) rfl #[.slice A0 l0.length c0] rfl (by (try simp only [List.map_toArray, List.map_cons, List.map_nil]); first | done | rfl | (simp only [List.length_drop, List.length_take]; rfl)) ?_; (with_reducible refine (spec_DimsOk.calls k _ _ l0 true _ ?side1 ?side2 A2.out).mono ?_); (case side1 => repeat (first | exact HR0.out | (with_reducible refine Kd.C_alloc ?_ _) | (with_reducible refine Kd.C_drewN ?_ _) | (with_reducible refine Kd.C_drew ?_))); (case side2 => exact HC0.out); rintro e wd ⟨rfl, ⟨nd, hnd⟩⟩; refine ⟨_, rfl, ?_⟩; have HRd : Aside0 (Kd.C (Kd.int .i64) wd A0 l0.length l0) := ⟨by rw [hnd]; exact Kd.C_drewN HR0.out _⟩; have HBd : Aside0 (Below w.heap.size w wd) := ⟨by rw [hnd]; exact pw_below_drewN HB.out _⟩; clear hnd) | ((with_reducible refine gate_callee (f := 66) rfl ?_); refine goesL_ (some 20) rfl rfl Try.func66 (by kernel_rfl) rfl #[.pointer (some ⟨wd.heap.size, 0, none⟩), .slice A0 l0.length c0] rfl (by (try simp only [List.map_toArray, List.map_cons, List.map_nil]); first | done | rfl | (simp only [List.length_drop, List.length_take]; rfl)) ?_; (with_reducible refine (spec_l09Part.calls k wd.heap.size s1 0 0 0 false A0 c0 l0 p1 p2 p3 p4 p5 _ _ wd _ ?side1 ?side2 ?side3 ?side4 ?side5 A4.out).mono ?_); (case side1 => exact IsS97.new wd wd s1 0 0 0 false (Below.refl _ _)); (case side2 => exact below_alloc (Below.refl _ _) _); (case side3 => exact Kd.C_alloc HRd.out _); (case side4 => exact HC0.out); (case side5 => exact Kd.far_C 0 HRd.out (Nat.le_refl _)); rintro e wp ⟨rfl, hi, hb, hk⟩; refine ⟨_, rfl, ?_⟩; have HBp := Aside0.mk (below_step HBd.out hb); obtain ⟨HG, hg⟩ := hi; have hcz_1 := cellS97_1 HG; have hcz_2 := cellS97_2 HG; have hcz_3 := cellS97_3 HG; have hcz_4 := cellS97_4 HG; clear HG hg hb hk))
      go_ret2
      exact ⟨rfl, by repeat (first | (with_reducible first | exact HBp.out | apply below_alloc | apply pw_below_drewN | apply below_drew1) | exact HBp.out)⟩
    · have e3b : (p4 == (s1.size : Int)) = false := by simpa using e3
      have e3c : (p4 != (s1.size : Int)) = true := by simp [e3]
      go_enter Try.func38, Try.ntmps38
      go_wp2_with (first | ((with_reducible refine gate_callee (f := 49) rfl ?_); (try (refine gate_guard (by rfl) ?_; dsimp only)); refine goesL_ (some 8) rfl rfl Try.func49 (by kernel_rfl) rfl #[.slice A0 l0.length c0] rfl (by (try simp only [List.map_toArray, List.map_cons, List.map_nil]); first | done | rfl | (simp only [List.length_drop, List.length_take]; rfl)) ?_; (with_reducible refine (spec_DimsOk.calls k _ _ l0 true _ ?side1 ?side2 A2.out).mono ?_); (case side1 => repeat (first | exact HR0.out | (with_reducible refine Kd.C_alloc ?_ _) | (with_reducible refine Kd.C_drewN ?_ _) | (with_reducible refine Kd.C_drew ?_))); (case side2 => exact HC0.out); rintro e wd ⟨rfl, ⟨nd, hnd⟩⟩; refine ⟨_, rfl, ?_⟩; have HRd : Aside0 (Kd.C (Kd.int .i64) wd A0 l0.length l0) := ⟨by rw [hnd]; exact Kd.C_drewN HR0.out _⟩; have HBd : Aside0 (Below w.heap.size w wd) := ⟨by rw [hnd]; exact pw_below_drewN HB.out _⟩; clear hnd) | ((with_reducible refine gate_callee (f := 66) rfl ?_); refine goesL_ (some 20) rfl rfl Try.func66 (by kernel_rfl) rfl #[.pointer (some ⟨wd.heap.size, 0, none⟩), .slice A0 l0.length c0] rfl (by (try simp only [List.map_toArray, List.map_cons, List.map_nil]); first | done | rfl | (simp only [List.length_drop, List.length_take]; rfl)) ?_; (with_reducible refine (spec_l09Part.calls k wd.heap.size s1 0 0 0 false A0 c0 l0 p1 p2 p3 p4 p5 _ _ wd _ ?side1 ?side2 ?side3 ?side4 ?side5 A4.out).mono ?_); (case side1 => exact IsS97.new wd wd s1 0 0 0 false (Below.refl _ _)); (case side2 => exact below_alloc (Below.refl _ _) _); (case side3 => exact Kd.C_alloc HRd.out _); (case side4 => exact HC0.out); (case side5 => exact Kd.far_C 0 HRd.out (Nat.le_refl _)); rintro e wp ⟨rfl, hi, hb, hk⟩; refine ⟨_, rfl, ?_⟩; have HBp := Aside0.mk (below_step HBd.out hb); obtain ⟨HG, hg⟩ := hi; have hcz_1 := cellS97_1 HG; have hcz_2 := cellS97_2 HG; have hcz_3 := cellS97_3 HG; have hcz_4 := cellS97_4 HG; clear HG hg hb hk))
      go_ret2
      exact ⟨rfl, by repeat (first | (with_reducible first | exact HBp.out | apply below_alloc | apply pw_below_drewN | apply below_drew1) | exact HBp.out)⟩
    · have e3b : (p4 == (s1.size : Int)) = true := by simpa using e3
      have e3c : (p4 != (s1.size : Int)) = false := by simp [e3]
      have e4b : (p5 == wrap64 ((l0.length : Int) - 1)) = true := by simpa using e4
      have e4c : (p5 != wrap64 ((l0.length : Int) - 1)) = false := by simp [e4]
      go_enter Try.func38, Try.ntmps38
      go_wp2_with (first | ((with_reducible refine gate_callee (f := 49) rfl ?_); (try (refine gate_guard (by rfl) ?_; dsimp only)); refine goesL_ (some 8) rfl rfl Try.func49 (by kernel_rfl) rfl #[.slice A0 l0.length c0] rfl (by (try simp only [List.map_toArray, List.map_cons, List.map_nil]); first | done | rfl | (simp only [List.length_drop, List.length_take]; rfl)) ?_; (with_reducible refine (spec_DimsOk.calls k _ _ l0 true _ ?side1 ?side2 A2.out).mono ?_); (case side1 => repeat (first | exact HR0.out | (with_reducible refine Kd.C_alloc ?_ _) | (with_reducible refine Kd.C_drewN ?_ _) | (with_reducible refine Kd.C_drew ?_))); (case side2 => exact HC0.out); rintro e wd ⟨rfl, ⟨nd, hnd⟩⟩; refine ⟨_, rfl, ?_⟩; have HRd : Aside0 (Kd.C (Kd.int .i64) wd A0 l0.length l0) := ⟨by rw [hnd]; exact Kd.C_drewN HR0.out _⟩; have HBd : Aside0 (Below w.heap.size w wd) := ⟨by rw [hnd]; exact pw_below_drewN HB.out _⟩; clear hnd) | ((with_reducible refine gate_callee (f := 66) rfl ?_); refine goesL_ (some 20) rfl rfl Try.func66 (by kernel_rfl) rfl #[.pointer (some ⟨wd.heap.size, 0, none⟩), .slice A0 l0.length c0] rfl (by (try simp only [List.map_toArray, List.map_cons, List.map_nil]); first | done | rfl | (simp only [List.length_drop, List.length_take]; rfl)) ?_; (with_reducible refine (spec_l09Part.calls k wd.heap.size s1 0 0 0 false A0 c0 l0 p1 p2 p3 p4 p5 _ _ wd _ ?side1 ?side2 ?side3 ?side4 ?side5 A4.out).mono ?_); (case side1 => exact IsS97.new wd wd s1 0 0 0 false (Below.refl _ _)); (case side2 => exact below_alloc (Below.refl _ _) _); (case side3 => exact Kd.C_alloc HRd.out _); (case side4 => exact HC0.out); (case side5 => exact Kd.far_C 0 HRd.out (Nat.le_refl _)); rintro e wp ⟨rfl, hi, hb, hk⟩; refine ⟨_, rfl, ?_⟩; have HBp := Aside0.mk (below_step HBd.out hb); obtain ⟨HG, hg⟩ := hi; have hcz_1 := cellS97_1 HG; have hcz_2 := cellS97_2 HG; have hcz_3 := cellS97_3 HG; have hcz_4 := cellS97_4 HG; clear HG hg hb hk))
      go_ret2
      exact ⟨rfl, by repeat (first | (with_reducible first | exact HBp.out | apply below_alloc | apply pw_below_drewN | apply below_drew1) | exact HBp.out)⟩
    · have e3b : (p4 == (s1.size : Int)) = true := by simpa using e3
      have e3c : (p4 != (s1.size : Int)) = false := by simp [e3]
      have e4b : (p5 == wrap64 ((l0.length : Int) - 1)) = false := by simpa using e4
      have e4c : (p5 != wrap64 ((l0.length : Int) - 1)) = true := by simp [e4]
      go_enter Try.func38, Try.ntmps38
      go_wp2_with (first | ((with_reducible refine gate_callee (f := 49) rfl ?_); (try (refine gate_guard (by rfl) ?_; dsimp only)); refine goesL_ (some 8) rfl rfl Try.func49 (by kernel_rfl) rfl #[.slice A0 l0.length c0] rfl (by (try simp only [List.map_toArray, List.map_cons, List.map_nil]); first | done | rfl | (simp only [List.length_drop, List.length_take]; rfl)) ?_; (with_reducible refine (spec_DimsOk.calls k _ _ l0 true _ ?side1 ?side2 A2.out).mono ?_); (case side1 => repeat (first | exact HR0.out | (with_reducible refine Kd.C_alloc ?_ _) | (with_reducible refine Kd.C_drewN ?_ _) | (with_reducible refine Kd.C_drew ?_))); (case side2 => exact HC0.out); rintro e wd ⟨rfl, ⟨nd, hnd⟩⟩; refine ⟨_, rfl, ?_⟩; have HRd : Aside0 (Kd.C (Kd.int .i64) wd A0 l0.length l0) := ⟨by rw [hnd]; exact Kd.C_drewN HR0.out _⟩; have HBd : Aside0 (Below w.heap.size w wd) := ⟨by rw [hnd]; exact pw_below_drewN HB.out _⟩; clear hnd) | ((with_reducible refine gate_callee (f := 66) rfl ?_); refine goesL_ (some 20) rfl rfl Try.func66 (by kernel_rfl) rfl #[.pointer (some ⟨wd.heap.size, 0, none⟩), .slice A0 l0.length c0] rfl (by (try simp only [List.map_toArray, List.map_cons, List.map_nil]); first | done | rfl | (simp only [List.length_drop, List.length_take]; rfl)) ?_; (with_reducible refine (spec_l09Part.calls k wd.heap.size s1 0 0 0 false A0 c0 l0 p1 p2 p3 p4 p5 _ _ wd _ ?side1 ?side2 ?side3 ?side4 ?side5 A4.out).mono ?_); (case side1 => exact IsS97.new wd wd s1 0 0 0 false (Below.refl _ _)); (case side2 => exact below_alloc (Below.refl _ _) _); (case side3 => exact Kd.C_alloc HRd.out _); (case side4 => exact HC0.out); (case side5 => exact Kd.far_C 0 HRd.out (Nat.le_refl _)); rintro e wp ⟨rfl, hi, hb, hk⟩; refine ⟨_, rfl, ?_⟩; have HBp := Aside0.mk (below_step HBd.out hb); obtain ⟨HG, hg⟩ := hi; have hcz_1 := cellS97_1 HG; have hcz_2 := cellS97_2 HG; have hcz_3 := cellS97_3 HG; have hcz_4 := cellS97_4 HG; clear HG hg hb hk))
      go_ret2
      exact ⟨rfl, by repeat (first | (with_reducible first | exact HBp.out | apply below_alloc | apply pw_below_drewN | apply below_drew1) | exact HBp.out)⟩
  | false =>
    rw [if_neg (show ¬ (false = true) by decide)] at H
    simp only [Option.some.injEq, Prod.mk.injEq] at H
    obtain ⟨rfl, rfl⟩ := H
    go_enter Try.func38, Try.ntmps38
    go_wp2_with (first | ((with_reducible refine gate_callee (f := 49) rfl ?_); (try (refine gate_guard (by rfl) ?_; dsimp only)); refine goesL_ (some 8) rfl rfl Try.func49 (by kernel_rfl) rfl #[.slice A0 l0.length c0] rfl (by (try simp only [List.map_toArray, List.map_cons, List.map_nil]); first | done | rfl | (simp only [List.length_drop, List.length_take]; rfl)) ?_; (with_reducible refine (spec_DimsOk.calls k _ _ l0 false _ ?side1 ?side2 A2.out).mono ?_); (case side1 => repeat (first | exact HR0.out | (with_reducible refine Kd.C_alloc ?_ _) | (with_reducible refine Kd.C_drewN ?_ _) | (with_reducible refine Kd.C_drew ?_))); (case side2 => exact HC0.out); rintro e wd ⟨rfl, ⟨nd, hnd⟩⟩; refine ⟨_, rfl, ?_⟩; have HRd : Aside0 (Kd.C (Kd.int .i64) wd A0 l0.length l0) := ⟨by rw [hnd]; exact Kd.C_drewN HR0.out _⟩; have HBd : Aside0 (Below w.heap.size w wd) := ⟨by rw [hnd]; exact pw_below_drewN HB.out _⟩; clear hnd))
    go_ret2
    exact ⟨rfl, by repeat (first | (with_reducible first | exact HBd.out | apply below_alloc | apply pw_below_drewN | apply below_drew1) | exact HBd.out)⟩
end Go.Proofs.Ytpcjbnglolfaaaa.PFnExactCostOf
