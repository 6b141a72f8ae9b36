/- impl.CostOf by hand: a reader of an order, made and asked. -/
import Derived.Test.YtokhjlaomgimmaaDoorQFnChainsx2
import Derived.Test.YtokhjlaomgimmaaDoorQFnChainsx0
namespace Go.Proofs.YtokhjlaomgimmaaDoor.PFnChains
open Go.RowKit Go.Proofs.YtokhjlaomgimmaaDoorW.PrintWords Go.Proofs.YtokhjlaomgimmaaDoorW.PrintLast Go.Proofs.YtokhjlaomgimmaaDoorW.PrintMore
attribute [local go_sem] max2_int min2_int max_two min_two max_three min_three max_four min_four   -- for this text's walks alone
set_option linter.unusedVariables false
set_option linter.unusedSimpArgs false
def impl_CostOf.f (k : Nat) (l0 : List Int) (s1 : ByteArray) : Option (Int × Bool) := if (s1.size : Int) > 21 then some (0, false) else (impl_DimsOk.f k l0).bind fun t13 => (if t13 = true then ((impl_orderReader_part.f k l0 s1 0 0 false).bind fun p => (if p.2.2.2.2 = true then some (0, false) else (if p.2.2.1 < (s1.size : Int) then some (0, false) else (if p.2.2.2.1 = wrap64 ((l0.length : Int) - 1) then some (p.1, true) else some (0, false))))) else (some (0, false)))
theorem impl_CostOf.mono : ∀ a0 a1 k, LeO (impl_CostOf.f k a0 a1) (impl_CostOf.f (k + 1) a0 a1) := by
  intro a0 a1 k
  unfold impl_CostOf.f
  repeat' first
      | (with_reducible exact impl_DimsOk.mono _ _)
      | (with_reducible exact impl_orderReader_part.mono _ _ _ _ _ _)
      | (with_reducible exact LeO.refl _)
      | (with_reducible exact LeO.none _)
      | (with_reducible refine LeO.ite ?_ ?_)
      | (with_reducible refine LeO.bind ?_ (fun _ => ?_))
set_option maxHeartbeats 8000000 in
set_option maxRecDepth 100000 in
theorem impl_CostOf.calls (k : Nat) (A0 : Option Addr) (c0 : Nat) (l0 : List Int) (s1 : ByteArray) (r1 : Int) (r2 : Bool) (w : World) (hr0 : Kd.C (Kd.int .i64) w A0 l0.length l0) (hc0 : l0.length ≤ c0) (h : impl_CostOf.f k l0 s1 = some (r1, r2)) :
    Calls Tryd.prog 11 #[.slice A0 l0.length c0, .string s1] w fun e w' => e = .returned (.tuple #[.int .i64 r1, .bool r2]) ∧ Below w.heap.size w w' := by
  have HR0 := Aside0.mk hr0
  have HC0 := Aside0.mk hc0
  clear hr0 hc0
  have HB := Aside0.mk (Below.refl w.heap.size w)
  unfold impl_CostOf.f at h
  by_cases g1 : (s1.size : Int) > 21
  · rw [if_pos g1] at h
    simp only [Option.some.injEq, Prod.mk.injEq] at h
    obtain ⟨rfl, rfl⟩ := h
    have c1 : decide ((s1.size : Int) > 21) = true := decide_eq_true g1
    clear g1
    go_enter Tryd.func11, Tryd.ntmps11
    go_wp2
    go_ret2
    exact ⟨rfl, by repeat (first | (with_reducible first | exact HB.out | apply below_alloc | apply pw_below_drewN | apply below_drew1) | exact HB.out)⟩
  rw [if_neg g1] at h
  have c1 : decide ((s1.size : Int) > 21) = false := decide_eq_false g1
  clear g1
  replace h := Option.bind_eq_some_iff.mp h
  obtain ⟨t13, A20, H⟩ := h
  have A2 := Aside0.mk A20
  clear A20
  cases t13 with
  | true =>
    rw [if_pos rfl] at H
    replace H := Option.bind_eq_some_iff.mp H
    obtain ⟨p, A40, H⟩ := H
    obtain ⟨p1, p2, p3, p4, p5⟩ := p
    have A4 := Aside0.mk A40
    clear A40
    have H' : (p5 = true ∧ r1 = 0 ∧ r2 = false) ∨ (p5 = false ∧ p3 < (s1.size : Int) ∧ r1 = 0 ∧ r2 = false) ∨ (p5 = false ∧ ¬ p3 < (s1.size : Int) ∧ p4 = wrap64 ((l0.length : Int) - 1) ∧ r1 = p1 ∧ r2 = true) ∨ (p5 = false ∧ ¬ p3 < (s1.size : Int) ∧ ¬ p4 = wrap64 ((l0.length : Int) - 1) ∧ r1 = 0 ∧ r2 = false) := by
      simp only at H
      by_cases e5 : p5 = true
      · rw [if_pos e5] at H; simp only [Option.some.injEq, Prod.mk.injEq] at H; exact .inl ⟨e5, H.1.symm, H.2.symm⟩
      · rw [if_neg e5] at H
        have e5 := Bool.eq_false_iff.mpr e5
        by_cases e3 : p3 < (s1.size : Int)
        · rw [if_pos e3] at H; simp only [Option.some.injEq, Prod.mk.injEq] at H; exact .inr (.inl ⟨e5, e3, H.1.symm, H.2.symm⟩)
        · rw [if_neg e3] at H
          by_cases e4 : p4 = wrap64 ((l0.length : Int) - 1)
          · rw [if_pos e4] at H; simp only [Option.some.injEq, Prod.mk.injEq] at H; exact .inr (.inr (.inl ⟨e5, e3, e4, H.1.symm, H.2.symm⟩))
          · rw [if_neg e4] at H; simp only [Option.some.injEq, Prod.mk.injEq] at H; exact .inr (.inr (.inr ⟨e5, e3, e4, H.1.symm, H.2.symm⟩))
    clear H
    rcases H' with ⟨rfl, rfl, rfl⟩ | ⟨rfl, e3, rfl, rfl⟩ | ⟨rfl, e3, e4, rfl, rfl⟩ | ⟨rfl, e3, e4, rfl, rfl⟩
    · skip
      go_enter Tryd.func11, Tryd.ntmps11
      go_wp2_with (first | ((with_reducible refine gate_callee (f := 15) rfl ?_); (try (refine gate_guard (by rfl) ?_; dsimp only)); refine goesL_ (some 13) rfl rfl Tryd.func15 (by kernel_rfl) rfl #[.slice A0 l0.length c0] rfl (by (try simp only [List.map_toArray, List.map_cons, List.map_nil]); first | done | rfl | (simp only [List.length_drop, List.length_take]; rfl)) ?_; (with_reducible refine (impl_DimsOk.calls k _ _ l0 true _ ?side1 ?side2 A2.out).mono ?_); (case side1 => repeat (first | exact HR0.out | (with_reducible refine Kd.C_alloc ?_ _) | (with_reducible refine Kd.C_drewN ?_ _) | (with_reducible refine Kd.C_drew ?_))); (case side2 => exact HC0.out); rintro e wd ⟨rfl, ⟨nd, hnd⟩⟩; refine ⟨_, rfl, ?_⟩; have HRd : Aside0 (Kd.C (Kd.int .i64) wd A0 l0.length l0) := ⟨by rw [hnd]; exact Kd.C_drewN HR0.out _⟩; have HBd : Aside0 (Below w.heap.size w wd) := ⟨by rw [hnd]; exact pw_below_drewN HB.out _⟩; clear hnd) | ((with_reducible refine gate_callee (f := 36) rfl ?_); refine goesL_ (some 19) rfl rfl Tryd.func36 (by kernel_rfl) rfl #[.pointer (some ⟨wd.heap.size, 0, none⟩)] rfl (by (try simp only [List.map_toArray, List.map_cons, List.map_nil]); first | done | rfl | (simp only [List.length_drop, List.length_take]; rfl)) ?_; (with_reducible refine (impl_orderReader_part.calls k wd.heap.size l0 s1 0 0 false _ p2 p3 p4 _ wd _ ?side1 ?side2 A4.out).mono ?_); (case side1 => exact IsS56.new wd wd A0 c0 l0 s1 0 0 false (Below.refl _ _) HRd.out); (case side2 => exact below_alloc (Below.refl _ _) _); rintro e wp ⟨rfl, hi, hb, hk⟩; refine ⟨_, rfl, ?_⟩; have HBp := Aside0.mk (below_step HBd.out hb); obtain ⟨A1, c1', HG, hg, hr⟩ := hi; have hcz_2 := cellS56_2 HG; have hcz_3 := cellS56_3 HG; have hcz_4 := cellS56_4 HG; clear HG hg hr hb hk))
      go_ret2
      exact ⟨rfl, by repeat (first | (with_reducible first | exact HBp.out | apply below_alloc | apply pw_below_drewN | apply below_drew1) | exact HBp.out)⟩
    · have e3b := decide_eq_true e3
      clear e3
      go_enter Tryd.func11, Tryd.ntmps11
      go_wp2_with (first | ((with_reducible refine gate_callee (f := 15) rfl ?_); (try (refine gate_guard (by rfl) ?_; dsimp only)); refine goesL_ (some 13) rfl rfl Tryd.func15 (by kernel_rfl) rfl #[.slice A0 l0.length c0] rfl (by (try simp only [List.map_toArray, List.map_cons, List.map_nil]); first | done | rfl | (simp only [List.length_drop, List.length_take]; rfl)) ?_; (with_reducible refine (impl_DimsOk.calls k _ _ l0 true _ ?side1 ?side2 A2.out).mono ?_); (case side1 => repeat (first | exact HR0.out | (with_reducible refine Kd.C_alloc ?_ _) | (with_reducible refine Kd.C_drewN ?_ _) | (with_reducible refine Kd.C_drew ?_))); (case side2 => exact HC0.out); rintro e wd ⟨rfl, ⟨nd, hnd⟩⟩; refine ⟨_, rfl, ?_⟩; have HRd : Aside0 (Kd.C (Kd.int .i64) wd A0 l0.length l0) := ⟨by rw [hnd]; exact Kd.C_drewN HR0.out _⟩; have HBd : Aside0 (Below w.heap.size w wd) := ⟨by rw [hnd]; exact pw_below_drewN HB.out _⟩; clear hnd) | ((with_reducible refine gate_callee (f := 36) rfl ?_); refine goesL_ (some 19) rfl rfl Tryd.func36 (by kernel_rfl) rfl #[.pointer (some ⟨wd.heap.size, 0, none⟩)] rfl (by (try simp only [List.map_toArray, List.map_cons, List.map_nil]); first | done | rfl | (simp only [List.length_drop, List.length_take]; rfl)) ?_; (with_reducible refine (impl_orderReader_part.calls k wd.heap.size l0 s1 0 0 false _ p2 p3 p4 _ wd _ ?side1 ?side2 A4.out).mono ?_); (case side1 => exact IsS56.new wd wd A0 c0 l0 s1 0 0 false (Below.refl _ _) HRd.out); (case side2 => exact below_alloc (Below.refl _ _) _); rintro e wp ⟨rfl, hi, hb, hk⟩; refine ⟨_, rfl, ?_⟩; have HBp := Aside0.mk (below_step HBd.out hb); obtain ⟨A1, c1', HG, hg, hr⟩ := hi; have hcz_2 := cellS56_2 HG; have hcz_3 := cellS56_3 HG; have hcz_4 := cellS56_4 HG; clear HG hg hr hb hk))
      go_ret2
      exact ⟨rfl, by repeat (first | (with_reducible first | exact HBp.out | apply below_alloc | apply pw_below_drewN | apply below_drew1) | exact HBp.out)⟩
    · have e3b := decide_eq_false e3
      have e4b : (p4 == wrap64 ((l0.length : Int) - 1)) = true := by simpa using e4
      have e4c : (p4 != wrap64 ((l0.length : Int) - 1)) = false := by simp [e4]
      clear e3
      go_enter Tryd.func11, Tryd.ntmps11
      go_wp2_with (first | ((with_reducible refine gate_callee (f := 15) rfl ?_); (try (refine gate_guard (by rfl) ?_; dsimp only)); refine goesL_ (some 13) rfl rfl Tryd.func15 (by kernel_rfl) rfl #[.slice A0 l0.length c0] rfl (by (try simp only [List.map_toArray, List.map_cons, List.map_nil]); first | done | rfl | (simp only [List.length_drop, List.length_take]; rfl)) ?_; (with_reducible refine (impl_DimsOk.calls k _ _ l0 true _ ?side1 ?side2 A2.out).mono ?_); (case side1 => repeat (first | exact HR0.out | (with_reducible refine Kd.C_alloc ?_ _) | (with_reducible refine Kd.C_drewN ?_ _) | (with_reducible refine Kd.C_drew ?_))); (case side2 => exact HC0.out); rintro e wd ⟨rfl, ⟨nd, hnd⟩⟩; refine ⟨_, rfl, ?_⟩; have HRd : Aside0 (Kd.C (Kd.int .i64) wd A0 l0.length l0) := ⟨by rw [hnd]; exact Kd.C_drewN HR0.out _⟩; have HBd : Aside0 (Below w.heap.size w wd) := ⟨by rw [hnd]; exact pw_below_drewN HB.out _⟩; clear hnd) | ((with_reducible refine gate_callee (f := 36) rfl ?_); refine goesL_ (some 19) rfl rfl Tryd.func36 (by kernel_rfl) rfl #[.pointer (some ⟨wd.heap.size, 0, none⟩)] rfl (by (try simp only [List.map_toArray, List.map_cons, List.map_nil]); first | done | rfl | (simp only [List.length_drop, List.length_take]; rfl)) ?_; (with_reducible refine (impl_orderReader_part.calls k wd.heap.size l0 s1 0 0 false _ p2 p3 p4 _ wd _ ?side1 ?side2 A4.out).mono ?_); (case side1 => exact IsS56.new wd wd A0 c0 l0 s1 0 0 false (Below.refl _ _) HRd.out); (case side2 => exact below_alloc (Below.refl _ _) _); rintro e wp ⟨rfl, hi, hb, hk⟩; refine ⟨_, rfl, ?_⟩; have HBp := Aside0.mk (below_step HBd.out hb); obtain ⟨A1, c1', HG, hg, hr⟩ := hi; have hcz_2 := cellS56_2 HG; have hcz_3 := cellS56_3 HG; have hcz_4 := cellS56_4 HG; clear HG hg hr hb hk))
      go_ret2
      exact ⟨rfl, by repeat (first | (with_reducible first | exact HBp.out | apply below_alloc | apply pw_below_drewN | apply below_drew1) | exact HBp.out)⟩
    · have e3b := decide_eq_false e3
      have e4b : (p4 == wrap64 ((l0.length : Int) - 1)) = false := by simpa using e4
      have e4c : (p4 != wrap64 ((l0.length : Int) - 1)) = true := by simp [e4]
      clear e3
      go_enter Tryd.func11, Tryd.ntmps11
      go_wp2_with (first | ((with_reducible refine gate_callee (f := 15) rfl ?_); (try (refine gate_guard (by rfl) ?_; dsimp only)); refine goesL_ (some 13) rfl rfl Tryd.func15 (by kernel_rfl) rfl #[.slice A0 l0.length c0] rfl (by (try simp only [List.map_toArray, List.map_cons, List.map_nil]); first | done | rfl | (simp only [List.length_drop, List.length_take]; rfl)) ?_; (with_reducible refine (impl_DimsOk.calls k _ _ l0 true _ ?side1 ?side2 A2.out).mono ?_); (case side1 => repeat (first | exact HR0.out | (with_reducible refine Kd.C_alloc ?_ _) | (with_reducible refine Kd.C_drewN ?_ _) | (with_reducible refine Kd.C_drew ?_))); (case side2 => exact HC0.out); rintro e wd ⟨rfl, ⟨nd, hnd⟩⟩; refine ⟨_, rfl, ?_⟩; have HRd : Aside0 (Kd.C (Kd.int .i64) wd A0 l0.length l0) := ⟨by rw [hnd]; exact Kd.C_drewN HR0.out _⟩; have HBd : Aside0 (Below w.heap.size w wd) := ⟨by rw [hnd]; exact pw_below_drewN HB.out _⟩; clear hnd) | ((with_reducible refine gate_callee (f := 36) rfl ?_); refine goesL_ (some 19) rfl rfl Tryd.func36 (by kernel_rfl) rfl #[.pointer (some ⟨wd.heap.size, 0, none⟩)] rfl (by (try simp only [List.map_toArray, List.map_cons, List.map_nil]); first | done | rfl | (simp only [List.length_drop, List.length_take]; rfl)) ?_; (with_reducible refine (impl_orderReader_part.calls k wd.heap.size l0 s1 0 0 false _ p2 p3 p4 _ wd _ ?side1 ?side2 A4.out).mono ?_); (case side1 => exact IsS56.new wd wd A0 c0 l0 s1 0 0 false (Below.refl _ _) HRd.out); (case side2 => exact below_alloc (Below.refl _ _) _); rintro e wp ⟨rfl, hi, hb, hk⟩; refine ⟨_, rfl, ?_⟩; have HBp := Aside0.mk (below_step HBd.out hb); obtain ⟨A1, c1', HG, hg, hr⟩ := hi; have hcz_2 := cellS56_2 HG; have hcz_3 := cellS56_3 HG; have hcz_4 := cellS56_4 HG; clear HG hg hr hb hk))
      go_ret2
      exact ⟨rfl, by repeat (first | (with_reducible first | exact HBp.out | apply below_alloc | apply pw_below_drewN | apply below_drew1) | exact HBp.out)⟩
  | false =>
    rw [if_neg (show ¬ (false = true) by decide)] at H
    simp only [Option.some.injEq, Prod.mk.injEq] at H
    obtain ⟨rfl, rfl⟩ := H
    go_enter Tryd.func11, Tryd.ntmps11
    go_wp2_with (first | ((with_reducible refine gate_callee (f := 15) rfl ?_); (try (refine gate_guard (by rfl) ?_; dsimp only)); refine goesL_ (some 13) rfl rfl Tryd.func15 (by kernel_rfl) rfl #[.slice A0 l0.length c0] rfl (by (try simp only [List.map_toArray, List.map_cons, List.map_nil]); first | done | rfl | (simp only [List.length_drop, List.length_take]; rfl)) ?_; (with_reducible refine (impl_DimsOk.calls k _ _ l0 false _ ?side1 ?side2 A2.out).mono ?_); (case side1 => repeat (first | exact HR0.out | (with_reducible refine Kd.C_alloc ?_ _) | (with_reducible refine Kd.C_drewN ?_ _) | (with_reducible refine Kd.C_drew ?_))); (case side2 => exact HC0.out); rintro e w' ⟨rfl, ⟨nd, rfl⟩⟩; refine ⟨_, rfl, ?_⟩))
    go_ret2
    exact ⟨rfl, by repeat (first | (with_reducible first | exact HB.out | apply below_alloc | apply pw_below_drewN | apply below_drew1) | exact HB.out)⟩
end Go.Proofs.YtokhjlaomgimmaaDoor.PFnChains
