/- Contracts of Go functions that the law FnExactSameTree reaches (what a print told of a program with stand-ins). -/
import Derived.Test.YtokhjlaomgimmaaQFnExactSameTreex0
import Derived.Laws.CopyOwn
import Derived.Laws.Tables
import Derived.Test.YtokhjlaomgimmaaQFnExactSameTreex3
namespace Go.Proofs.Ytokhjlaomgimmaa.PFnExactSameTree
open Go.RowKit Go.Proofs.YtokhjlaomgimmaaW.PrintWords Go.Proofs.YtokhjlaomgimmaaW.PrintLast Go.Proofs.YtokhjlaomgimmaaW.PrintMore
attribute [local go_sem] max2_int min2_int max_two min_two max_three min_three max_four min_four   -- for this text's walks alone
set_option linter.unusedVariables false
set_option linter.unusedSimpArgs false

/-! ### spec_SameTree: function 11 -/
mutual
def spec_SameTree.l0 : Nat → List (S54) → List (S54) → Int → Option (Bool)
  | 0, _, _, _ => none
  | k + 1, x0, x1, x5 => if x5 < (x0.length : Int) then (if 0 ≤ x5 then (if x5 < (x1.length : Int) then (if ((rd_T54 x0 x5).f0) = ((rd_T54 x1 x5).f0) then (if ((rd_T54 x0 x5).f1) = ((rd_T54 x1 x5).f1) then (if ((rd_T54 x0 x5).f2) = ((rd_T54 x1 x5).f2) then (if ((rd_T54 x0 x5).f3) = ((rd_T54 x1 x5).f3) then (if ((rd_T54 x0 x5).f5).toList = ((rd_T54 x1 x5).f5).toList then (if (((rd_T54 x0 x5).f4).length : Int) = (((rd_T54 x1 x5).f4).length : Int) then ((spec_SameMatrix.f k ((rd_T54 x0 x5).f6.f0) ((rd_T54 x0 x5).f6.f1) ((rd_T54 x0 x5).f6.f2) ((rd_T54 x1 x5).f6.f0) ((rd_T54 x1 x5).f6.f1) ((rd_T54 x1 x5).f6.f2)).bind fun t119 => (spec_SameTree.j1 k x0 x1 x5 (!t119) ((rd_T54 x0 x5).f0) ((rd_T54 x0 x5).f1) ((rd_T54 x0 x5).f2) ((rd_T54 x0 x5).f3) ((rd_T54 x0 x5).f4) ((rd_T54 x0 x5).f5) ((rd_T54 x0 x5).f6.f0) ((rd_T54 x0 x5).f6.f1) ((rd_T54 x0 x5).f6.f2) ((rd_T54 x0 x5).f7) ((rd_T54 x1 x5).f0) ((rd_T54 x1 x5).f1) ((rd_T54 x1 x5).f2) ((rd_T54 x1 x5).f3) ((rd_T54 x1 x5).f4) ((rd_T54 x1 x5).f5) ((rd_T54 x1 x5).f6.f0) ((rd_T54 x1 x5).f6.f1) ((rd_T54 x1 x5).f6.f2) ((rd_T54 x1 x5).f7))) else (spec_SameTree.j1 k x0 x1 x5 true ((rd_T54 x0 x5).f0) ((rd_T54 x0 x5).f1) ((rd_T54 x0 x5).f2) ((rd_T54 x0 x5).f3) ((rd_T54 x0 x5).f4) ((rd_T54 x0 x5).f5) ((rd_T54 x0 x5).f6.f0) ((rd_T54 x0 x5).f6.f1) ((rd_T54 x0 x5).f6.f2) ((rd_T54 x0 x5).f7) ((rd_T54 x1 x5).f0) ((rd_T54 x1 x5).f1) ((rd_T54 x1 x5).f2) ((rd_T54 x1 x5).f3) ((rd_T54 x1 x5).f4) ((rd_T54 x1 x5).f5) ((rd_T54 x1 x5).f6.f0) ((rd_T54 x1 x5).f6.f1) ((rd_T54 x1 x5).f6.f2) ((rd_T54 x1 x5).f7))) else (spec_SameTree.j1 k x0 x1 x5 true ((rd_T54 x0 x5).f0) ((rd_T54 x0 x5).f1) ((rd_T54 x0 x5).f2) ((rd_T54 x0 x5).f3) ((rd_T54 x0 x5).f4) ((rd_T54 x0 x5).f5) ((rd_T54 x0 x5).f6.f0) ((rd_T54 x0 x5).f6.f1) ((rd_T54 x0 x5).f6.f2) ((rd_T54 x0 x5).f7) ((rd_T54 x1 x5).f0) ((rd_T54 x1 x5).f1) ((rd_T54 x1 x5).f2) ((rd_T54 x1 x5).f3) ((rd_T54 x1 x5).f4) ((rd_T54 x1 x5).f5) ((rd_T54 x1 x5).f6.f0) ((rd_T54 x1 x5).f6.f1) ((rd_T54 x1 x5).f6.f2) ((rd_T54 x1 x5).f7))) else (spec_SameTree.j1 k x0 x1 x5 true ((rd_T54 x0 x5).f0) ((rd_T54 x0 x5).f1) ((rd_T54 x0 x5).f2) ((rd_T54 x0 x5).f3) ((rd_T54 x0 x5).f4) ((rd_T54 x0 x5).f5) ((rd_T54 x0 x5).f6.f0) ((rd_T54 x0 x5).f6.f1) ((rd_T54 x0 x5).f6.f2) ((rd_T54 x0 x5).f7) ((rd_T54 x1 x5).f0) ((rd_T54 x1 x5).f1) ((rd_T54 x1 x5).f2) ((rd_T54 x1 x5).f3) ((rd_T54 x1 x5).f4) ((rd_T54 x1 x5).f5) ((rd_T54 x1 x5).f6.f0) ((rd_T54 x1 x5).f6.f1) ((rd_T54 x1 x5).f6.f2) ((rd_T54 x1 x5).f7))) else (spec_SameTree.j1 k x0 x1 x5 true ((rd_T54 x0 x5).f0) ((rd_T54 x0 x5).f1) ((rd_T54 x0 x5).f2) ((rd_T54 x0 x5).f3) ((rd_T54 x0 x5).f4) ((rd_T54 x0 x5).f5) ((rd_T54 x0 x5).f6.f0) ((rd_T54 x0 x5).f6.f1) ((rd_T54 x0 x5).f6.f2) ((rd_T54 x0 x5).f7) ((rd_T54 x1 x5).f0) ((rd_T54 x1 x5).f1) ((rd_T54 x1 x5).f2) ((rd_T54 x1 x5).f3) ((rd_T54 x1 x5).f4) ((rd_T54 x1 x5).f5) ((rd_T54 x1 x5).f6.f0) ((rd_T54 x1 x5).f6.f1) ((rd_T54 x1 x5).f6.f2) ((rd_T54 x1 x5).f7))) else (spec_SameTree.j1 k x0 x1 x5 true ((rd_T54 x0 x5).f0) ((rd_T54 x0 x5).f1) ((rd_T54 x0 x5).f2) ((rd_T54 x0 x5).f3) ((rd_T54 x0 x5).f4) ((rd_T54 x0 x5).f5) ((rd_T54 x0 x5).f6.f0) ((rd_T54 x0 x5).f6.f1) ((rd_T54 x0 x5).f6.f2) ((rd_T54 x0 x5).f7) ((rd_T54 x1 x5).f0) ((rd_T54 x1 x5).f1) ((rd_T54 x1 x5).f2) ((rd_T54 x1 x5).f3) ((rd_T54 x1 x5).f4) ((rd_T54 x1 x5).f5) ((rd_T54 x1 x5).f6.f0) ((rd_T54 x1 x5).f6.f1) ((rd_T54 x1 x5).f6.f2) ((rd_T54 x1 x5).f7))) else (spec_SameTree.j1 k x0 x1 x5 true ((rd_T54 x0 x5).f0) ((rd_T54 x0 x5).f1) ((rd_T54 x0 x5).f2) ((rd_T54 x0 x5).f3) ((rd_T54 x0 x5).f4) ((rd_T54 x0 x5).f5) ((rd_T54 x0 x5).f6.f0) ((rd_T54 x0 x5).f6.f1) ((rd_T54 x0 x5).f6.f2) ((rd_T54 x0 x5).f7) ((rd_T54 x1 x5).f0) ((rd_T54 x1 x5).f1) ((rd_T54 x1 x5).f2) ((rd_T54 x1 x5).f3) ((rd_T54 x1 x5).f4) ((rd_T54 x1 x5).f5) ((rd_T54 x1 x5).f6.f0) ((rd_T54 x1 x5).f6.f1) ((rd_T54 x1 x5).f6.f2) ((rd_T54 x1 x5).f7))) else (none)) else (none)) else (some true)
def spec_SameTree.j1 : Nat → List (S54) → List (S54) → Int → Bool → Int → Int → Int → Int → List Int → ByteArray → Int → Int → List (S43) → Int → Int → Int → Int → Int → List Int → ByteArray → Int → Int → List (S43) → Int → Option (Bool)
  | 0, _, _, _, _, _, _, _, _, _, _, _, _, _, _, _, _, _, _, _, _, _, _, _, _ => none
  | k + 1, x0, x1, x5, x77, x117000, x117001, x117002, x117003, x117004, x117005, x117006, x117007, x117008, x117009, x119000, x119001, x119002, x119003, x119004, x119005, x119006, x119007, x119008, x119009 => if x77 = true then (some false) else (spec_SameTree.l1 k x0 x1 x5 0 x117000 x117001 x117002 x117003 x117004 x117005 x117006 x117007 x117008 x117009 x119000 x119001 x119002 x119003 x119004 x119005 x119006 x119007 x119008 x119009)
def spec_SameTree.l1 : Nat → List (S54) → List (S54) → Int → Int → Int → Int → Int → Int → List Int → ByteArray → Int → Int → List (S43) → Int → Int → Int → Int → Int → List Int → ByteArray → Int → Int → List (S43) → Int → Option (Bool)
  | 0, _, _, _, _, _, _, _, _, _, _, _, _, _, _, _, _, _, _, _, _, _, _, _, _ => none
  | k + 1, x0, x1, x5, x8, x117000, x117001, x117002, x117003, x117004, x117005, x117006, x117007, x117008, x117009, x119000, x119001, x119002, x119003, x119004, x119005, x119006, x119007, x119008, x119009 => if x8 < (x117004.length : Int) then (if 0 ≤ x8 then (if x8 < (x119004.length : Int) then (if (rd x117004 x8) = (rd x119004 x8) then (spec_SameTree.l1 k x0 x1 x5 (wrap64 (x8 + 1)) x117000 x117001 x117002 x117003 x117004 x117005 x117006 x117007 x117008 x117009 x119000 x119001 x119002 x119003 x119004 x119005 x119006 x119007 x119008 x119009) else (some false)) else (none)) else (none)) else (spec_SameTree.l0 k x0 x1 (wrap64 (x5 + 1)))
end
def spec_SameTree.f (k : Nat) (l0 : List (S54)) (l1 : List (S54)) : Option (Bool) := if (l0.length : Int) = (l1.length : Int) then (spec_SameTree.l0 k l0 l1 0) else (some false)
theorem spec_SameTree.mono_l : ∀ k, (∀ y0 y1 y2, LeO (spec_SameTree.l0 k y0 y1 y2) (spec_SameTree.l0 (k + 1) y0 y1 y2)) ∧ (∀ y0 y1 y2 y3 y4 y5 y6 y7 y8 y9 y10 y11 y12 y13 y14 y15 y16 y17 y18 y19 y20 y21 y22 y23, LeO (spec_SameTree.j1 k y0 y1 y2 y3 y4 y5 y6 y7 y8 y9 y10 y11 y12 y13 y14 y15 y16 y17 y18 y19 y20 y21 y22 y23) (spec_SameTree.j1 (k + 1) y0 y1 y2 y3 y4 y5 y6 y7 y8 y9 y10 y11 y12 y13 y14 y15 y16 y17 y18 y19 y20 y21 y22 y23)) ∧ (∀ y0 y1 y2 y3 y4 y5 y6 y7 y8 y9 y10 y11 y12 y13 y14 y15 y16 y17 y18 y19 y20 y21 y22 y23, LeO (spec_SameTree.l1 k y0 y1 y2 y3 y4 y5 y6 y7 y8 y9 y10 y11 y12 y13 y14 y15 y16 y17 y18 y19 y20 y21 y22 y23) (spec_SameTree.l1 (k + 1) y0 y1 y2 y3 y4 y5 y6 y7 y8 y9 y10 y11 y12 y13 y14 y15 y16 y17 y18 y19 y20 y21 y22 y23))
  | 0 => ⟨fun _ _ _ r h => by simp [spec_SameTree.l0] at h, fun _ _ _ _ _ _ _ _ _ _ _ _ _ _ _ _ _ _ _ _ _ _ _ _ r h => by simp [spec_SameTree.j1] at h, fun _ _ _ _ _ _ _ _ _ _ _ _ _ _ _ _ _ _ _ _ _ _ _ _ r h => by simp [spec_SameTree.l1] at h⟩
  | k + 1 => by
    obtain ⟨ih0, ih1, ih2⟩ := spec_SameTree.mono_l k
    refine ⟨?_, ?_, ?_⟩
    · intro y0 y1 y2
      unfold spec_SameTree.l0
      repeat' first
      | (with_reducible exact ih0 _ _ _)
      | (with_reducible exact ih1 _ _ _ _ _ _ _ _ _ _ _ _ _ _ _ _ _ _ _ _ _ _ _ _)
      | (with_reducible exact ih2 _ _ _ _ _ _ _ _ _ _ _ _ _ _ _ _ _ _ _ _ _ _ _ _)
      | (with_reducible exact spec_SameMatrix.mono _ _ _ _ _ _ _)
      | (with_reducible exact LeO.refl _)
      | (with_reducible exact LeO.none _)
      | (with_reducible refine LeO.ite ?_ ?_)
      | (with_reducible refine LeO.bind ?_ (fun _ => ?_))
      | exact ih0 _ _ _
      | exact ih1 _ _ _ _ _ _ _ _ _ _ _ _ _ _ _ _ _ _ _ _ _ _ _ _
      | exact ih2 _ _ _ _ _ _ _ _ _ _ _ _ _ _ _ _ _ _ _ _ _ _ _ _
      | exact spec_SameMatrix.mono _ _ _ _ _ _ _
      | exact LeO.none _
      | refine LeO.ite ?_ ?_
      | refine LeO.bind ?_ (fun _ => ?_)
    · intro y0 y1 y2 y3 y4 y5 y6 y7 y8 y9 y10 y11 y12 y13 y14 y15 y16 y17 y18 y19 y20 y21 y22 y23
      unfold spec_SameTree.j1
      repeat' first
      | (with_reducible exact ih0 _ _ _)
      | (with_reducible exact ih1 _ _ _ _ _ _ _ _ _ _ _ _ _ _ _ _ _ _ _ _ _ _ _ _)
      | (with_reducible exact ih2 _ _ _ _ _ _ _ _ _ _ _ _ _ _ _ _ _ _ _ _ _ _ _ _)
      | (with_reducible exact spec_SameMatrix.mono _ _ _ _ _ _ _)
      | (with_reducible exact LeO.refl _)
      | (with_reducible exact LeO.none _)
      | (with_reducible refine LeO.ite ?_ ?_)
      | (with_reducible refine LeO.bind ?_ (fun _ => ?_))
      | exact ih0 _ _ _
      | exact ih1 _ _ _ _ _ _ _ _ _ _ _ _ _ _ _ _ _ _ _ _ _ _ _ _
      | exact ih2 _ _ _ _ _ _ _ _ _ _ _ _ _ _ _ _ _ _ _ _ _ _ _ _
      | exact spec_SameMatrix.mono _ _ _ _ _ _ _
      | exact LeO.none _
      | refine LeO.ite ?_ ?_
      | refine LeO.bind ?_ (fun _ => ?_)
    · intro y0 y1 y2 y3 y4 y5 y6 y7 y8 y9 y10 y11 y12 y13 y14 y15 y16 y17 y18 y19 y20 y21 y22 y23
      unfold spec_SameTree.l1
      repeat' first
      | (with_reducible exact ih0 _ _ _)
      | (with_reducible exact ih1 _ _ _ _ _ _ _ _ _ _ _ _ _ _ _ _ _ _ _ _ _ _ _ _)
      | (with_reducible exact ih2 _ _ _ _ _ _ _ _ _ _ _ _ _ _ _ _ _ _ _ _ _ _ _ _)
      | (with_reducible exact spec_SameMatrix.mono _ _ _ _ _ _ _)
      | (with_reducible exact LeO.refl _)
      | (with_reducible exact LeO.none _)
      | (with_reducible refine LeO.ite ?_ ?_)
      | (with_reducible refine LeO.bind ?_ (fun _ => ?_))
      | exact ih0 _ _ _
      | exact ih1 _ _ _ _ _ _ _ _ _ _ _ _ _ _ _ _ _ _ _ _ _ _ _ _
      | exact ih2 _ _ _ _ _ _ _ _ _ _ _ _ _ _ _ _ _ _ _ _ _ _ _ _
      | exact spec_SameMatrix.mono _ _ _ _ _ _ _
      | exact LeO.none _
      | refine LeO.ite ?_ ?_
      | refine LeO.bind ?_ (fun _ => ?_)
theorem spec_SameTree.mono : ∀ a0 a1 k, LeO (spec_SameTree.f k a0 a1) (spec_SameTree.f (k + 1) a0 a1) := by
  intro a0 a1 k
  obtain ⟨ih0, ih1, ih2⟩ := spec_SameTree.mono_l k
  unfold spec_SameTree.f
  repeat' first
      | (with_reducible exact ih0 _ _ _)
      | (with_reducible exact ih1 _ _ _ _ _ _ _ _ _ _ _ _ _ _ _ _ _ _ _ _ _ _ _ _)
      | (with_reducible exact ih2 _ _ _ _ _ _ _ _ _ _ _ _ _ _ _ _ _ _ _ _ _ _ _ _)
      | (with_reducible exact spec_SameMatrix.mono _ _ _ _ _ _ _)
      | (with_reducible exact LeO.refl _)
      | (with_reducible exact LeO.none _)
      | (with_reducible refine LeO.ite ?_ ?_)
      | (with_reducible refine LeO.bind ?_ (fun _ => ?_))
      | exact ih0 _ _ _
      | exact ih1 _ _ _ _ _ _ _ _ _ _ _ _ _ _ _ _ _ _ _ _ _ _ _ _
      | exact ih2 _ _ _ _ _ _ _ _ _ _ _ _ _ _ _ _ _ _ _ _ _ _ _ _
      | exact spec_SameMatrix.mono _ _ _ _ _ _ _
      | exact LeO.none _
      | refine LeO.ite ?_ ?_
      | refine LeO.bind ?_ (fun _ => ?_)
set_option maxHeartbeats 8000000 in
set_option maxRecDepth 100000 in
theorem spec_SameTree.calls (k : Nat) (A0 : Option Addr) (c0 : Nat) (l0 : List (S54)) (A1 : Option Addr) (c1 : Nat) (l1 : List (S54)) (r : Bool) (w : World) (hr0 : Kd.C k54 w A0 l0.length l0) (hc0 : l0.length ≤ c0) (hr1 : Kd.C k54 w A1 l1.length l1) (hc1 : l1.length ≤ c1) (h : spec_SameTree.f k l0 l1 = some r) :
    Calls Try.prog 11 #[.slice A0 l0.length c0, .slice A1 l1.length c1] w fun e w' => e = .returned (.bool r) ∧ Below w.heap.size w w' := by
  have hu54 := Try.underlying54
  have hu24 := Try.underlying24
  have HR0 := Aside0.mk hr0
  have HC0 := Aside0.mk hc0
  clear hr0 hc0
  have HR1 := Aside0.mk hr1
  have HC1 := Aside0.mk hc1
  clear hr1 hc1
  have HB := Aside0.mk (Below.refl w.heap.size w)
  have H : (if (l0.length : Int) = (l1.length : Int) then (spec_SameTree.l0 k l0 l1 0) else (some false)) = some r := h
  clear h
  by_cases c3 : (l0.length : Int) = (l1.length : Int)
  · rw [if_pos c3] at H
    have c3b0 : ((l0.length : Int) == (l1.length : Int)) = true := beq_iff_eq.mpr c3
    have c3b1 : ((l0.length : Int) != (l1.length : Int)) = false := bne_eq_false_iff_eq.mpr c3
    have c3b2 : (l0.length == l1.length) = true := by first | simpa using c3 | (simp at c3 ⊢; omega)
    clear c3
    have H' := Aside0.mk H
    clear H
    go_enter Try.func11, Try.ntmps11
    go_wp2
    repeat (go_quiet (fail); try go_wp2)
    go_loopg [5] k (fun kq v5 w' => ∃ (x5_1 : Int), v5 = .int .i64 x5_1 ∧ Aside0 (spec_SameTree.l0 kq l0 l1 x5_1 = some r) ∧ Aside0 (kq ≤ k) ∧ Aside0 (Below w.heap.size w w'))
    case atStart => exact ⟨(0), (by first | rfl | (simp; done) | (simp [*]; done)), H', ⟨Nat.le_refl _⟩, ⟨by repeat (first | (with_reducible first | exact HB.out | apply below_alloc | apply pw_below_drewN | apply below_drew1) | exact HB.out)⟩⟩
    case round =>
      clear H'
      try clear c1
      try clear p2
      try clear c3
      try clear c3b0
      try clear c3b1
      try clear c3b2
      obtain ⟨x5_1, rfl, HA, HK1, HB⟩ := hrel
      cases gk with
      | zero => exact absurd HA.out (by simp [spec_SameTree.l0])
      | succ k1 =>
        have H := HA.out
        clear HA
        simp only [spec_SameTree.l0] at H
        by_cases c4 : x5_1 < (l0.length : Int)
        · rw [if_pos c4] at H
          have c4b0 : decide (x5_1 < (l0.length : Int)) = true := decide_eq_true c4
          clear c4
          by_cases c5 : 0 ≤ x5_1
          · rw [if_pos c5] at H
            have c5b0 : decide (0 ≤ x5_1) = true := decide_eq_true c5
            clear c5
            by_cases c6 : x5_1 < (l1.length : Int)
            · rw [if_pos c6] at H
              have c6b0 : decide (x5_1 < (l1.length : Int)) = true := decide_eq_true c6
              clear c6
              have HC7 := Aside0.mk H
              clear H
              have p115 : 0 ≤ (x5_1 : Int) := of_decide_eq_true (by first | (with_reducible assumption) | assumption)
              have q115 : x5_1 < (l0.length : Int) := of_decide_eq_true (by first | (with_reducible assumption) | assumption)
              have q117 : x5_1 < (l1.length : Int) := of_decide_eq_true (by first | (with_reducible assumption) | assumption)
              obtain ⟨ad115, A115_4, c115_4, A115_8, c115_8, e115, hx115_0, hx115_1, hx115_2, hx115_3, hx115_4, hx115_5, hx115_6, hx115_7, hx115_8, hx115_9, hl115_4, hi115_4, hl115_8, hi115_8⟩ := at_T54 HR0.out x5_1 p115 q115
              cases e115
              replace hx115_0 := (HB.out.cell (World.block_lt_of_cell? w _ hx115_0)).trans hx115_0
              replace hx115_1 := (HB.out.cell (World.block_lt_of_cell? w _ hx115_1)).trans hx115_1
              replace hx115_2 := (HB.out.cell (World.block_lt_of_cell? w _ hx115_2)).trans hx115_2
              replace hx115_3 := (HB.out.cell (World.block_lt_of_cell? w _ hx115_3)).trans hx115_3
              replace hx115_4 := (HB.out.cell (World.block_lt_of_cell? w _ hx115_4)).trans hx115_4
              replace hx115_5 := (HB.out.cell (World.block_lt_of_cell? w _ hx115_5)).trans hx115_5
              replace hx115_6 := (HB.out.cell (World.block_lt_of_cell? w _ hx115_6)).trans hx115_6
              replace hx115_7 := (HB.out.cell (World.block_lt_of_cell? w _ hx115_7)).trans hx115_7
              replace hx115_8 := (HB.out.cell (World.block_lt_of_cell? w _ hx115_8)).trans hx115_8
              replace hx115_9 := (HB.out.cell (World.block_lt_of_cell? w _ hx115_9)).trans hx115_9
              have HR115_4 := Aside0.mk hi115_4
              have HC115_4 := Aside0.mk hl115_4
              clear hi115_4 hl115_4
              have HR115_8 := Aside0.mk hi115_8
              have HC115_8 := Aside0.mk hl115_8
              clear hi115_8 hl115_8
              obtain ⟨ad117, A117_4, c117_4, A117_8, c117_8, e117, hx117_0, hx117_1, hx117_2, hx117_3, hx117_4, hx117_5, hx117_6, hx117_7, hx117_8, hx117_9, hl117_4, hi117_4, hl117_8, hi117_8⟩ := at_T54 HR1.out x5_1 p115 q117
              cases e117
              have HX117_0 := Aside0.mk hx117_0
              have HX117_1 := Aside0.mk hx117_1
              have HX117_2 := Aside0.mk hx117_2
              have HX117_3 := Aside0.mk hx117_3
              have HX117_4 := Aside0.mk hx117_4
              have HX117_5 := Aside0.mk hx117_5
              have HX117_6 := Aside0.mk hx117_6
              have HX117_7 := Aside0.mk hx117_7
              have HX117_8 := Aside0.mk hx117_8
              have HX117_9 := Aside0.mk hx117_9
              have HR117_4 := Aside0.mk hi117_4
              have HC117_4 := Aside0.mk hl117_4
              clear hi117_4 hl117_4
              have HR117_8 := Aside0.mk hi117_8
              have HC117_8 := Aside0.mk hl117_8
              clear hi117_8 hl117_8
              clear hx117_0 hx117_1 hx117_2 hx117_3 hx117_4 hx117_5 hx117_6 hx117_7 hx117_8 hx117_9
              replace p115 := eq_true p115
              replace q115 := eq_true q115
              replace q117 := eq_true q117
              go_upto_region 7 with (first | ((with_reducible refine gate_dst (N := 6) rfl ?_); (try (refine gate_guard (by rfl) ?_; dsimp only)); refine box_event ?hg (N := 6) ?hd (cs := #[.int .i64 0, .int .i64 0, .int .i64 0, .int .i64 0, .slice none 0 0, .string (⟨#[]⟩ : ByteArray), .int .i64 0, .int .i64 0, .slice none 0 0, .int .i64 0]) (t := 54) ?hr ?_; (case hd => rfl); (case hg => rfl); (case hr => first | (go_simp; done) | (go_simp; rfl)); intro gb116 hg w8 hbox hb; have n0_ := Aside0.mk (below_step HB.out hb); have n1_ := Aside0.mk hbox; have n2_ := Aside0.mk ((by rw [hg]; exact below_size HB.out) : w.heap.size ≤ gb116); clear HB; have HB := n0_; have BK116 := n1_; have GE116 := n2_; clear n0_ n1_ n2_ hb hbox hg) | ((with_reducible refine gate_store (t := 54) (p := 6) (v := .tmp 23) rfl ?_); refine wpList_store_row rfl 54 (.tmp 6) (.tmp 23) rfl gb116 #[.int .i64 ((rd_T54 l0 x5_1).f0), .int .i64 ((rd_T54 l0 x5_1).f1), .int .i64 ((rd_T54 l0 x5_1).f2), .int .i64 ((rd_T54 l0 x5_1).f3), .slice A115_4 ((rd_T54 l0 x5_1).f4).length c115_4, .string ((rd_T54 l0 x5_1).f5), .int .i64 ((rd_T54 l0 x5_1).f6.f0), .int .i64 ((rd_T54 l0 x5_1).f6.f1), .slice A115_8 ((rd_T54 l0 x5_1).f6.f2).length c115_8, .int .i64 ((rd_T54 l0 x5_1).f7)] rfl rfl 54 #[.int .i64 0, .int .i64 0, .int .i64 0, .int .i64 0, .slice none 0 0, .string (⟨#[]⟩ : ByteArray), .int .i64 0, .int .i64 0, .slice none 0 0, .int .i64 0] BK116.out (by kernel_rfl) rfl (by first | rfl | decide | simp [Value.oneCell']) ?_; have n0_ := Aside0.mk (below_setRow HB.out GE116.out #[.int .i64 ((rd_T54 l0 x5_1).f0), .int .i64 ((rd_T54 l0 x5_1).f1), .int .i64 ((rd_T54 l0 x5_1).f2), .int .i64 ((rd_T54 l0 x5_1).f3), .slice A115_4 ((rd_T54 l0 x5_1).f4).length c115_4, .string ((rd_T54 l0 x5_1).f5), .int .i64 ((rd_T54 l0 x5_1).f6.f0), .int .i64 ((rd_T54 l0 x5_1).f6.f1), .slice A115_8 ((rd_T54 l0 x5_1).f6.f2).length c115_8, .int .i64 ((rd_T54 l0 x5_1).f7)]); have n1_ := Aside0.mk (setRow_heap w8 gb116 _ #[.int .i64 ((rd_T54 l0 x5_1).f0), .int .i64 ((rd_T54 l0 x5_1).f1), .int .i64 ((rd_T54 l0 x5_1).f2), .int .i64 ((rd_T54 l0 x5_1).f3), .slice A115_4 ((rd_T54 l0 x5_1).f4).length c115_4, .string ((rd_T54 l0 x5_1).f5), .int .i64 ((rd_T54 l0 x5_1).f6.f0), .int .i64 ((rd_T54 l0 x5_1).f6.f1), .slice A115_8 ((rd_T54 l0 x5_1).f6.f2).length c115_8, .int .i64 ((rd_T54 l0 x5_1).f7)] 54 (0, 0) BK116.out); generalize w8.setRow gb116 #[.int .i64 ((rd_T54 l0 x5_1).f0), .int .i64 ((rd_T54 l0 x5_1).f1), .int .i64 ((rd_T54 l0 x5_1).f2), .int .i64 ((rd_T54 l0 x5_1).f3), .slice A115_4 ((rd_T54 l0 x5_1).f4).length c115_4, .string ((rd_T54 l0 x5_1).f5), .int .i64 ((rd_T54 l0 x5_1).f6.f0), .int .i64 ((rd_T54 l0 x5_1).f6.f1), .slice A115_8 ((rd_T54 l0 x5_1).f6.f2).length c115_8, .int .i64 ((rd_T54 l0 x5_1).f7)] = w9 at *; clear BK116 HB; have BK116 := n1_; have HB := n0_; clear n0_ n1_))
              have hx117_0 := (HB.out.cell (World.block_lt_of_cell? w _ HX117_0.out)).trans HX117_0.out
              have hx117_1 := (HB.out.cell (World.block_lt_of_cell? w _ HX117_1.out)).trans HX117_1.out
              have hx117_2 := (HB.out.cell (World.block_lt_of_cell? w _ HX117_2.out)).trans HX117_2.out
              have hx117_3 := (HB.out.cell (World.block_lt_of_cell? w _ HX117_3.out)).trans HX117_3.out
              have hx117_4 := (HB.out.cell (World.block_lt_of_cell? w _ HX117_4.out)).trans HX117_4.out
              have hx117_5 := (HB.out.cell (World.block_lt_of_cell? w _ HX117_5.out)).trans HX117_5.out
              have hx117_6 := (HB.out.cell (World.block_lt_of_cell? w _ HX117_6.out)).trans HX117_6.out
              have hx117_7 := (HB.out.cell (World.block_lt_of_cell? w _ HX117_7.out)).trans HX117_7.out
              have hx117_8 := (HB.out.cell (World.block_lt_of_cell? w _ HX117_8.out)).trans HX117_8.out
              have hx117_9 := (HB.out.cell (World.block_lt_of_cell? w _ HX117_9.out)).trans HX117_9.out
              clear hx115_0 hx115_1 hx115_2 hx115_3 hx115_4 hx115_5 hx115_6 hx115_7 hx115_8 hx115_9
              go_upto_region 8 with (first | ((with_reducible refine gate_dst (N := 7) rfl ?_); (try (refine gate_guard (by rfl) ?_; dsimp only)); refine box_event ?hg (N := 7) ?hd (cs := #[.int .i64 0, .int .i64 0, .int .i64 0, .int .i64 0, .slice none 0 0, .string (⟨#[]⟩ : ByteArray), .int .i64 0, .int .i64 0, .slice none 0 0, .int .i64 0]) (t := 54) ?hr ?_; (case hd => rfl); (case hg => rfl); (case hr => first | (go_simp; done) | (go_simp; rfl)); intro gb118 hg w10 hbox hb; have n0_ := Aside0.mk (below_step HB.out hb); have n1_ := Aside0.mk hbox; have n2_ := Aside0.mk ((by rw [hg]; exact below_size HB.out) : w.heap.size ≤ gb118); have n3_ := Aside0.mk (blk_below BK116.out hb); have n4_ := Aside0.mk ((by rw [hg]; exact Nat.ne_of_lt (blk_lt BK116.out)) : gb116 ≠ gb118); clear HB BK116; have HB := n0_; have BK118 := n1_; have GE118 := n2_; have BK116 := n3_; have NB116_118 := n4_; clear n0_ n1_ n2_ n3_ n4_ hb hbox hg) | ((with_reducible refine gate_store (t := 54) (p := 7) (v := .tmp 27) rfl ?_); refine wpList_store_row rfl 54 (.tmp 7) (.tmp 27) rfl gb118 #[.int .i64 ((rd_T54 l1 x5_1).f0), .int .i64 ((rd_T54 l1 x5_1).f1), .int .i64 ((rd_T54 l1 x5_1).f2), .int .i64 ((rd_T54 l1 x5_1).f3), .slice A117_4 ((rd_T54 l1 x5_1).f4).length c117_4, .string ((rd_T54 l1 x5_1).f5), .int .i64 ((rd_T54 l1 x5_1).f6.f0), .int .i64 ((rd_T54 l1 x5_1).f6.f1), .slice A117_8 ((rd_T54 l1 x5_1).f6.f2).length c117_8, .int .i64 ((rd_T54 l1 x5_1).f7)] rfl rfl 54 #[.int .i64 0, .int .i64 0, .int .i64 0, .int .i64 0, .slice none 0 0, .string (⟨#[]⟩ : ByteArray), .int .i64 0, .int .i64 0, .slice none 0 0, .int .i64 0] BK118.out (by kernel_rfl) rfl (by first | rfl | decide | simp [Value.oneCell']) ?_; have n0_ := Aside0.mk (below_setRow HB.out GE118.out #[.int .i64 ((rd_T54 l1 x5_1).f0), .int .i64 ((rd_T54 l1 x5_1).f1), .int .i64 ((rd_T54 l1 x5_1).f2), .int .i64 ((rd_T54 l1 x5_1).f3), .slice A117_4 ((rd_T54 l1 x5_1).f4).length c117_4, .string ((rd_T54 l1 x5_1).f5), .int .i64 ((rd_T54 l1 x5_1).f6.f0), .int .i64 ((rd_T54 l1 x5_1).f6.f1), .slice A117_8 ((rd_T54 l1 x5_1).f6.f2).length c117_8, .int .i64 ((rd_T54 l1 x5_1).f7)]); have n1_ := Aside0.mk (setRow_heap w10 gb118 _ #[.int .i64 ((rd_T54 l1 x5_1).f0), .int .i64 ((rd_T54 l1 x5_1).f1), .int .i64 ((rd_T54 l1 x5_1).f2), .int .i64 ((rd_T54 l1 x5_1).f3), .slice A117_4 ((rd_T54 l1 x5_1).f4).length c117_4, .string ((rd_T54 l1 x5_1).f5), .int .i64 ((rd_T54 l1 x5_1).f6.f0), .int .i64 ((rd_T54 l1 x5_1).f6.f1), .slice A117_8 ((rd_T54 l1 x5_1).f6.f2).length c117_8, .int .i64 ((rd_T54 l1 x5_1).f7)] 54 (0, 0) BK118.out); have n2_ := Aside0.mk ((setRow_other w10 gb118 gb116 #[.int .i64 ((rd_T54 l1 x5_1).f0), .int .i64 ((rd_T54 l1 x5_1).f1), .int .i64 ((rd_T54 l1 x5_1).f2), .int .i64 ((rd_T54 l1 x5_1).f3), .slice A117_4 ((rd_T54 l1 x5_1).f4).length c117_4, .string ((rd_T54 l1 x5_1).f5), .int .i64 ((rd_T54 l1 x5_1).f6.f0), .int .i64 ((rd_T54 l1 x5_1).f6.f1), .slice A117_8 ((rd_T54 l1 x5_1).f6.f2).length c117_8, .int .i64 ((rd_T54 l1 x5_1).f7)] (by first | exact NB116_118.out | exact NB116_118.out.symm)).trans BK116.out); generalize w10.setRow gb118 #[.int .i64 ((rd_T54 l1 x5_1).f0), .int .i64 ((rd_T54 l1 x5_1).f1), .int .i64 ((rd_T54 l1 x5_1).f2), .int .i64 ((rd_T54 l1 x5_1).f3), .slice A117_4 ((rd_T54 l1 x5_1).f4).length c117_4, .string ((rd_T54 l1 x5_1).f5), .int .i64 ((rd_T54 l1 x5_1).f6.f0), .int .i64 ((rd_T54 l1 x5_1).f6.f1), .slice A117_8 ((rd_T54 l1 x5_1).f6.f2).length c117_8, .int .i64 ((rd_T54 l1 x5_1).f7)] = w11 at *; clear BK118 HB; have BK118 := n1_; have HB := n0_; clear n0_ n1_; clear BK116; have BK116 := n2_; clear n2_))
              have NB118_116 := Aside0.mk NB116_118.out.symm
              clear hx117_0 HX117_0 hx117_1 HX117_1 hx117_2 HX117_2 hx117_3 HX117_3 hx117_4 HX117_4 hx117_5 HX117_5 hx117_6 HX117_6 hx117_7 HX117_7 hx117_8 HX117_8 hx117_9 HX117_9
              have hcz_gb116_0 : w11.cell? ⟨gb116, 0, none⟩ = some (.int .i64 ((rd_T54 l0 x5_1).f0)) := (blk_cell BK116.out 0).trans rfl
              have hcz_gb116_1 : w11.cell? ⟨gb116, 1, none⟩ = some (.int .i64 ((rd_T54 l0 x5_1).f1)) := (blk_cell BK116.out 1).trans rfl
              have hcz_gb116_2 : w11.cell? ⟨gb116, 2, none⟩ = some (.int .i64 ((rd_T54 l0 x5_1).f2)) := (blk_cell BK116.out 2).trans rfl
              have hcz_gb116_3 : w11.cell? ⟨gb116, 3, none⟩ = some (.int .i64 ((rd_T54 l0 x5_1).f3)) := (blk_cell BK116.out 3).trans rfl
              have hcz_gb116_4 : w11.cell? ⟨gb116, 4, none⟩ = some (.slice A115_4 ((rd_T54 l0 x5_1).f4).length c115_4) := (blk_cell BK116.out 4).trans rfl
              have hcz_gb116_5 : w11.cell? ⟨gb116, 5, none⟩ = some (.string ((rd_T54 l0 x5_1).f5)) := (blk_cell BK116.out 5).trans rfl
              have hcz_gb116_6 : w11.cell? ⟨gb116, 6, none⟩ = some (.int .i64 ((rd_T54 l0 x5_1).f6.f0)) := (blk_cell BK116.out 6).trans rfl
              have hcz_gb116_7 : w11.cell? ⟨gb116, 7, none⟩ = some (.int .i64 ((rd_T54 l0 x5_1).f6.f1)) := (blk_cell BK116.out 7).trans rfl
              have hcz_gb116_8 : w11.cell? ⟨gb116, 8, none⟩ = some (.slice A115_8 ((rd_T54 l0 x5_1).f6.f2).length c115_8) := (blk_cell BK116.out 8).trans rfl
              have hcz_gb116_9 : w11.cell? ⟨gb116, 9, none⟩ = some (.int .i64 ((rd_T54 l0 x5_1).f7)) := (blk_cell BK116.out 9).trans rfl
              have hcz_gb118_0 : w11.cell? ⟨gb118, 0, none⟩ = some (.int .i64 ((rd_T54 l1 x5_1).f0)) := (blk_cell BK118.out 0).trans rfl
              have hcz_gb118_1 : w11.cell? ⟨gb118, 1, none⟩ = some (.int .i64 ((rd_T54 l1 x5_1).f1)) := (blk_cell BK118.out 1).trans rfl
              have hcz_gb118_2 : w11.cell? ⟨gb118, 2, none⟩ = some (.int .i64 ((rd_T54 l1 x5_1).f2)) := (blk_cell BK118.out 2).trans rfl
              have hcz_gb118_3 : w11.cell? ⟨gb118, 3, none⟩ = some (.int .i64 ((rd_T54 l1 x5_1).f3)) := (blk_cell BK118.out 3).trans rfl
              have hcz_gb118_4 : w11.cell? ⟨gb118, 4, none⟩ = some (.slice A117_4 ((rd_T54 l1 x5_1).f4).length c117_4) := (blk_cell BK118.out 4).trans rfl
              have hcz_gb118_5 : w11.cell? ⟨gb118, 5, none⟩ = some (.string ((rd_T54 l1 x5_1).f5)) := (blk_cell BK118.out 5).trans rfl
              have hcz_gb118_6 : w11.cell? ⟨gb118, 6, none⟩ = some (.int .i64 ((rd_T54 l1 x5_1).f6.f0)) := (blk_cell BK118.out 6).trans rfl
              have hcz_gb118_7 : w11.cell? ⟨gb118, 7, none⟩ = some (.int .i64 ((rd_T54 l1 x5_1).f6.f1)) := (blk_cell BK118.out 7).trans rfl
              have hcz_gb118_8 : w11.cell? ⟨gb118, 8, none⟩ = some (.slice A117_8 ((rd_T54 l1 x5_1).f6.f2).length c117_8) := (blk_cell BK118.out 8).trans rfl
              have hcz_gb118_9 : w11.cell? ⟨gb118, 9, none⟩ = some (.int .i64 ((rd_T54 l1 x5_1).f7)) := (blk_cell BK118.out 9).trans rfl
              (try simp only [Act.put, List.setIfInBounds_toArray, List.set_cons_zero, List.set_cons_succ])
              go_cut [77] (fun v77 wc => ∃ (kq : Nat) (x77_6 : Bool), v77 = .bool x77_6 ∧ Aside0 (spec_SameTree.j1 kq l0 l1 x5_1 x77_6 ((rd_T54 l0 x5_1).f0) ((rd_T54 l0 x5_1).f1) ((rd_T54 l0 x5_1).f2) ((rd_T54 l0 x5_1).f3) ((rd_T54 l0 x5_1).f4) ((rd_T54 l0 x5_1).f5) ((rd_T54 l0 x5_1).f6.f0) ((rd_T54 l0 x5_1).f6.f1) ((rd_T54 l0 x5_1).f6.f2) ((rd_T54 l0 x5_1).f7) ((rd_T54 l1 x5_1).f0) ((rd_T54 l1 x5_1).f1) ((rd_T54 l1 x5_1).f2) ((rd_T54 l1 x5_1).f3) ((rd_T54 l1 x5_1).f4) ((rd_T54 l1 x5_1).f5) ((rd_T54 l1 x5_1).f6.f0) ((rd_T54 l1 x5_1).f6.f1) ((rd_T54 l1 x5_1).f6.f2) ((rd_T54 l1 x5_1).f7) = some r) ∧ Aside0 (kq ≤ k1) ∧ Aside0 (wc.heap[gb116]? = some (.cells #[.int .i64 ((rd_T54 l0 x5_1).f0), .int .i64 ((rd_T54 l0 x5_1).f1), .int .i64 ((rd_T54 l0 x5_1).f2), .int .i64 ((rd_T54 l0 x5_1).f3), (.slice A115_4 ((rd_T54 l0 x5_1).f4).length c115_4), .string ((rd_T54 l0 x5_1).f5), .int .i64 ((rd_T54 l0 x5_1).f6.f0), .int .i64 ((rd_T54 l0 x5_1).f6.f1), (.slice A115_8 ((rd_T54 l0 x5_1).f6.f2).length c115_8), .int .i64 ((rd_T54 l0 x5_1).f7)] 54 (0, 0))) ∧ Aside0 (wc.heap[gb118]? = some (.cells #[.int .i64 ((rd_T54 l1 x5_1).f0), .int .i64 ((rd_T54 l1 x5_1).f1), .int .i64 ((rd_T54 l1 x5_1).f2), .int .i64 ((rd_T54 l1 x5_1).f3), (.slice A117_4 ((rd_T54 l1 x5_1).f4).length c117_4), .string ((rd_T54 l1 x5_1).f5), .int .i64 ((rd_T54 l1 x5_1).f6.f0), .int .i64 ((rd_T54 l1 x5_1).f6.f1), (.slice A117_8 ((rd_T54 l1 x5_1).f6.f2).length c117_8), .int .i64 ((rd_T54 l1 x5_1).f7)] 54 (0, 0))) ∧ Aside0 (Below w.heap.size w wc))
              case first =>
                have H := HC7.out
                clear HC7
                by_cases c13 : ((rd_T54 l0 x5_1).f0) = ((rd_T54 l1 x5_1).f0)
                · rw [if_pos c13] at H
                  have c13b0 : (((rd_T54 l0 x5_1).f0) == ((rd_T54 l1 x5_1).f0)) = true := beq_iff_eq.mpr c13
                  have c13b1 : (((rd_T54 l0 x5_1).f0) != ((rd_T54 l1 x5_1).f0)) = false := bne_eq_false_iff_eq.mpr c13
                  clear c13
                  (first | rw [c13b0] | (simp only [i64_w, i32_w]; rw [c13b0]) | skip)
                  by_cases c14 : ((rd_T54 l0 x5_1).f1) = ((rd_T54 l1 x5_1).f1)
                  · rw [if_pos c14] at H
                    have c14b0 : (((rd_T54 l0 x5_1).f1) == ((rd_T54 l1 x5_1).f1)) = true := beq_iff_eq.mpr c14
                    have c14b1 : (((rd_T54 l0 x5_1).f1) != ((rd_T54 l1 x5_1).f1)) = false := bne_eq_false_iff_eq.mpr c14
                    clear c14
                    by_cases c15 : ((rd_T54 l0 x5_1).f2) = ((rd_T54 l1 x5_1).f2)
                    · rw [if_pos c15] at H
                      have c15b0 : (((rd_T54 l0 x5_1).f2) == ((rd_T54 l1 x5_1).f2)) = true := beq_iff_eq.mpr c15
                      have c15b1 : (((rd_T54 l0 x5_1).f2) != ((rd_T54 l1 x5_1).f2)) = false := bne_eq_false_iff_eq.mpr c15
                      clear c15
                      by_cases c16 : ((rd_T54 l0 x5_1).f3) = ((rd_T54 l1 x5_1).f3)
                      · rw [if_pos c16] at H
                        have c16b0 : (((rd_T54 l0 x5_1).f3) == ((rd_T54 l1 x5_1).f3)) = true := beq_iff_eq.mpr c16
                        have c16b1 : (((rd_T54 l0 x5_1).f3) != ((rd_T54 l1 x5_1).f3)) = false := bne_eq_false_iff_eq.mpr c16
                        clear c16
                        by_cases c17 : ((rd_T54 l0 x5_1).f5).toList = ((rd_T54 l1 x5_1).f5).toList
                        · rw [if_pos c17] at H
                          have c17b0 : (((rd_T54 l0 x5_1).f5).toList == ((rd_T54 l1 x5_1).f5).toList) = true := beq_iff_eq.mpr c17
                          have c17b1 : (((rd_T54 l0 x5_1).f5).toList != ((rd_T54 l1 x5_1).f5).toList) = false := bne_eq_false_iff_eq.mpr c17
                          clear c17
                          by_cases c18 : (((rd_T54 l0 x5_1).f4).length : Int) = (((rd_T54 l1 x5_1).f4).length : Int)
                          · rw [if_pos c18] at H
                            have c18b0 : ((((rd_T54 l0 x5_1).f4).length : Int) == (((rd_T54 l1 x5_1).f4).length : Int)) = true := beq_iff_eq.mpr c18
                            have c18b1 : ((((rd_T54 l0 x5_1).f4).length : Int) != (((rd_T54 l1 x5_1).f4).length : Int)) = false := bne_eq_false_iff_eq.mpr c18
                            have c18b2 : (((rd_T54 l0 x5_1).f4).length == ((rd_T54 l1 x5_1).f4).length) = true := by first | simpa using c18 | (simp at c18 ⊢; omega)
                            clear c18
                            replace H := Option.bind_eq_some_iff.mp H
                            obtain ⟨t119, A190, H⟩ := H
                            replace H : (spec_SameTree.j1 k1 l0 l1 x5_1 (!t119) ((rd_T54 l0 x5_1).f0) ((rd_T54 l0 x5_1).f1) ((rd_T54 l0 x5_1).f2) ((rd_T54 l0 x5_1).f3) ((rd_T54 l0 x5_1).f4) ((rd_T54 l0 x5_1).f5) ((rd_T54 l0 x5_1).f6.f0) ((rd_T54 l0 x5_1).f6.f1) ((rd_T54 l0 x5_1).f6.f2) ((rd_T54 l0 x5_1).f7) ((rd_T54 l1 x5_1).f0) ((rd_T54 l1 x5_1).f1) ((rd_T54 l1 x5_1).f2) ((rd_T54 l1 x5_1).f3) ((rd_T54 l1 x5_1).f4) ((rd_T54 l1 x5_1).f5) ((rd_T54 l1 x5_1).f6.f0) ((rd_T54 l1 x5_1).f6.f1) ((rd_T54 l1 x5_1).f6.f2) ((rd_T54 l1 x5_1).f7)) = some r := H
                            have A19 := Aside0.mk A190
                            clear A190
                            have H' := Aside0.mk H
                            clear H
                            go_wp2_with (first | (go_at_call 23; (with_reducible refine (spec_SameMatrix.calls k1 ((rd_T54 l0 x5_1).f6.f0) ((rd_T54 l0 x5_1).f6.f1) _ _ ((rd_T54 l0 x5_1).f6.f2) ((rd_T54 l1 x5_1).f6.f0) ((rd_T54 l1 x5_1).f6.f1) _ _ ((rd_T54 l1 x5_1).f6.f2) t119 _ ?side1 ?side2 ?side3 ?side4 A19.out).mono ?_); (case side1 => exact Kd.C_below HR115_8.out HB.out); (case side2 => exact HC115_8.out); (case side3 => exact Kd.C_below HR117_8.out HB.out); (case side4 => exact HC117_8.out); rintro e w23 ⟨rfl, hb⟩; have n0_ := Aside0.mk (blk_below BK116.out hb); have n1_ := Aside0.mk (blk_below BK118.out hb); have n2_ := Aside0.mk (below_step HB.out hb); clear BK116; clear BK118; clear HB; have BK116 := n0_; have BK118 := n1_; have HB := n2_; clear n0_ n1_ n2_; (try clear hb)))
                            go_meet
                            case rel => exact ⟨_, (!t119), (by first | rfl | (simp; done) | (simp [*]; done)), H', ⟨by have := HK1.out; first | omega | exact Nat.le_refl _⟩, ⟨by (with_reducible repeat (first | refine blk_drewN ?_ _ | refine blk_drew ?_ | refine blk_alloc ?_ _)); exact BK116.out⟩, ⟨by (with_reducible repeat (first | refine blk_drewN ?_ _ | refine blk_drew ?_ | refine blk_alloc ?_ _)); exact BK118.out⟩, ⟨by repeat (first | (with_reducible first | exact HB.out | apply below_alloc | apply pw_below_drewN | apply below_drew1 | refine below_set ?_ GE116.out | refine below_set ?_ GE118.out) | exact HB.out)⟩⟩
                          · rw [if_neg c18] at H
                            have c18b0 : ((((rd_T54 l0 x5_1).f4).length : Int) == (((rd_T54 l1 x5_1).f4).length : Int)) = false := beq_eq_false_iff_ne.mpr c18
                            have c18b1 : ((((rd_T54 l0 x5_1).f4).length : Int) != (((rd_T54 l1 x5_1).f4).length : Int)) = true := bne_iff_ne.mpr c18
                            have c18b2 : (((rd_T54 l0 x5_1).f4).length == ((rd_T54 l1 x5_1).f4).length) = false := by first | simpa using c18 | (simp at c18 ⊢; omega)
                            have H' := Aside0.mk H
                            clear H
                            go_wp2
                            go_meet
                            case rel => exact ⟨_, (true), (by first | rfl | (simp; done) | (simp [*]; done)), H', ⟨by have := HK1.out; omega⟩, BK116, BK118, HB⟩
                        · rw [if_neg c17] at H
                          have c17b0 : (((rd_T54 l0 x5_1).f5).toList == ((rd_T54 l1 x5_1).f5).toList) = false := beq_eq_false_iff_ne.mpr c17
                          have c17b1 : (((rd_T54 l0 x5_1).f5).toList != ((rd_T54 l1 x5_1).f5).toList) = true := bne_iff_ne.mpr c17
                          have H' := Aside0.mk H
                          clear H
                          go_wp2
                          go_meet
                          case rel => exact ⟨_, (true), (by first | rfl | (simp; done) | (simp [*]; done)), H', ⟨by have := HK1.out; omega⟩, BK116, BK118, HB⟩
                      · rw [if_neg c16] at H
                        have c16b0 : (((rd_T54 l0 x5_1).f3) == ((rd_T54 l1 x5_1).f3)) = false := beq_eq_false_iff_ne.mpr c16
                        have c16b1 : (((rd_T54 l0 x5_1).f3) != ((rd_T54 l1 x5_1).f3)) = true := bne_iff_ne.mpr c16
                        have H' := Aside0.mk H
                        clear H
                        go_wp2
                        go_meet
                        case rel => exact ⟨_, (true), (by first | rfl | (simp; done) | (simp [*]; done)), H', ⟨by have := HK1.out; omega⟩, BK116, BK118, HB⟩
                    · rw [if_neg c15] at H
                      have c15b0 : (((rd_T54 l0 x5_1).f2) == ((rd_T54 l1 x5_1).f2)) = false := beq_eq_false_iff_ne.mpr c15
                      have c15b1 : (((rd_T54 l0 x5_1).f2) != ((rd_T54 l1 x5_1).f2)) = true := bne_iff_ne.mpr c15
                      have H' := Aside0.mk H
                      clear H
                      go_wp2
                      go_meet
                      case rel => exact ⟨_, (true), (by first | rfl | (simp; done) | (simp [*]; done)), H', ⟨by have := HK1.out; omega⟩, BK116, BK118, HB⟩
                  · rw [if_neg c14] at H
                    have c14b0 : (((rd_T54 l0 x5_1).f1) == ((rd_T54 l1 x5_1).f1)) = false := beq_eq_false_iff_ne.mpr c14
                    have c14b1 : (((rd_T54 l0 x5_1).f1) != ((rd_T54 l1 x5_1).f1)) = true := bne_iff_ne.mpr c14
                    have H' := Aside0.mk H
                    clear H
                    go_wp2
                    go_meet
                    case rel => exact ⟨_, (true), (by first | rfl | (simp; done) | (simp [*]; done)), H', ⟨by have := HK1.out; omega⟩, BK116, BK118, HB⟩
                · rw [if_neg c13] at H
                  have c13b0 : (((rd_T54 l0 x5_1).f0) == ((rd_T54 l1 x5_1).f0)) = false := beq_eq_false_iff_ne.mpr c13
                  have c13b1 : (((rd_T54 l0 x5_1).f0) != ((rd_T54 l1 x5_1).f0)) = true := bne_iff_ne.mpr c13
                  (first | rw [c13b0] | (simp only [i64_w, i32_w]; rw [c13b0]) | skip)
                  have H' := Aside0.mk H
                  clear H
                  go_wp2
                  go_meet
                  case rel => exact ⟨_, (true), (by first | rfl | (simp; done) | (simp [*]; done)), H', ⟨by have := HK1.out; omega⟩, BK116, BK118, HB⟩
              case rest =>
                clear HC7
                try clear c1
                try clear p1
                try clear q1
                try clear hx1
                try clear c2
                try clear p2
                try clear c3
                try clear c3b0
                try clear c3b1
                try clear c3b2
                try clear c4
                try clear c4b0
                try clear c5
                try clear c5b0
                try clear c6
                try clear c6b0
                try clear c11
                try clear p11
                try clear q11
                try clear hx11
                try clear c13
                try clear c13b0
                try clear c13b1
                try clear c14
                try clear c14b0
                try clear c14b1
                try clear c15
                try clear c15b0
                try clear c15b1
                try clear c16
                try clear c16b0
                try clear c16b1
                try clear c17
                try clear c17b0
                try clear c17b1
                try clear c18
                try clear c18b0
                try clear c18b1
                try clear c18b2
                try clear c20
                try clear c24
                try clear c27
                try clear c30
                try clear c33
                try clear c36
                try clear c39
                try clear hcz12_0
                try clear hcz12_1
                try clear hcz12_2
                try clear hcz12_3
                try clear hcz12_4
                try clear hcz12_5
                try clear hcz12_6
                try clear hcz12_7
                try clear hcz12_8
                try clear hcz12_9
                try clear hcz21_0
                try clear hcz21_1
                try clear hcz21_2
                try clear hcz21_3
                try clear hcz21_4
                try clear hcz21_5
                try clear hcz21_6
                try clear hcz21_7
                try clear hcz21_8
                try clear hcz21_9
                try clear hcz22_0
                try clear hcz22_1
                try clear hcz22_2
                try clear hcz22_3
                try clear hcz22_4
                try clear hcz22_5
                try clear hcz22_6
                try clear hcz22_7
                try clear hcz22_8
                try clear hcz22_9
                try clear hcz25_0
                try clear hcz25_1
                try clear hcz25_2
                try clear hcz25_3
                try clear hcz25_4
                try clear hcz25_5
                try clear hcz25_6
                try clear hcz25_7
                try clear hcz25_8
                try clear hcz25_9
                try clear hcz26_0
                try clear hcz26_1
                try clear hcz26_2
                try clear hcz26_3
                try clear hcz26_4
                try clear hcz26_5
                try clear hcz26_6
                try clear hcz26_7
                try clear hcz26_8
                try clear hcz26_9
                try clear hcz28_0
                try clear hcz28_1
                try clear hcz28_2
                try clear hcz28_3
                try clear hcz28_4
                try clear hcz28_5
                try clear hcz28_6
                try clear hcz28_7
                try clear hcz28_8
                try clear hcz28_9
                try clear hcz29_0
                try clear hcz29_1
                try clear hcz29_2
                try clear hcz29_3
                try clear hcz29_4
                try clear hcz29_5
                try clear hcz29_6
                try clear hcz29_7
                try clear hcz29_8
                try clear hcz29_9
                try clear hcz31_0
                try clear hcz31_1
                try clear hcz31_2
                try clear hcz31_3
                try clear hcz31_4
                try clear hcz31_5
                try clear hcz31_6
                try clear hcz31_7
                try clear hcz31_8
                try clear hcz31_9
                try clear hcz32_0
                try clear hcz32_1
                try clear hcz32_2
                try clear hcz32_3
                try clear hcz32_4
                try clear hcz32_5
                try clear hcz32_6
                try clear hcz32_7
                try clear hcz32_8
                try clear hcz32_9
                try clear hcz34_0
                try clear hcz34_1
                try clear hcz34_2
                try clear hcz34_3
                try clear hcz34_4
                try clear hcz34_5
                try clear hcz34_6
                try clear hcz34_7
                try clear hcz34_8
                try clear hcz34_9
                try clear hcz35_0
                try clear hcz35_1
                try clear hcz35_2
                try clear hcz35_3
                try clear hcz35_4
                try clear hcz35_5
                try clear hcz35_6
                try clear hcz35_7
                try clear hcz35_8
                try clear hcz35_9
                try clear hcz37_0
                try clear hcz37_1
                try clear hcz37_2
                try clear hcz37_3
                try clear hcz37_4
                try clear hcz37_5
                try clear hcz37_6
                try clear hcz37_7
                try clear hcz37_8
                try clear hcz37_9
                try clear hcz38_0
                try clear hcz38_1
                try clear hcz38_2
                try clear hcz38_3
                try clear hcz38_4
                try clear hcz38_5
                try clear hcz38_6
                try clear hcz38_7
                try clear hcz38_8
                try clear hcz38_9
                try clear hcz40_0
                try clear hcz40_1
                try clear hcz40_2
                try clear hcz40_3
                try clear hcz40_4
                try clear hcz40_5
                try clear hcz40_6
                try clear hcz40_7
                try clear hcz40_8
                try clear hcz40_9
                try clear hcz41_0
                try clear hcz41_1
                try clear hcz41_2
                try clear hcz41_3
                try clear hcz41_4
                try clear hcz41_5
                try clear hcz41_6
                try clear hcz41_7
                try clear hcz41_8
                try clear hcz41_9
                try clear hcz9_0
                try clear hcz9_1
                try clear hcz9_2
                try clear hcz9_3
                try clear hcz9_4
                try clear hcz9_5
                try clear hcz9_6
                try clear hcz9_7
                try clear hcz9_8
                try clear hcz9_9
                try clear hfz12_0
                try clear hfz12_1
                try clear hfz12_2
                try clear hfz12_3
                try clear hfz12_4
                try clear hfz12_5
                try clear hfz12_6
                try clear hfz12_7
                try clear hfz12_8
                try clear hfz12_9
                try clear hfz21_0
                try clear hfz21_1
                try clear hfz21_2
                try clear hfz21_3
                try clear hfz21_4
                try clear hfz21_5
                try clear hfz21_6
                try clear hfz21_7
                try clear hfz21_8
                try clear hfz21_9
                try clear hfz22_0
                try clear hfz22_1
                try clear hfz22_2
                try clear hfz22_3
                try clear hfz22_4
                try clear hfz22_5
                try clear hfz22_6
                try clear hfz22_7
                try clear hfz22_8
                try clear hfz22_9
                try clear hfz25_0
                try clear hfz25_1
                try clear hfz25_2
                try clear hfz25_3
                try clear hfz25_4
                try clear hfz25_5
                try clear hfz25_6
                try clear hfz25_7
                try clear hfz25_8
                try clear hfz25_9
                try clear hfz26_0
                try clear hfz26_1
                try clear hfz26_2
                try clear hfz26_3
                try clear hfz26_4
                try clear hfz26_5
                try clear hfz26_6
                try clear hfz26_7
                try clear hfz26_8
                try clear hfz26_9
                try clear hfz28_0
                try clear hfz28_1
                try clear hfz28_2
                try clear hfz28_3
                try clear hfz28_4
                try clear hfz28_5
                try clear hfz28_6
                try clear hfz28_7
                try clear hfz28_8
                try clear hfz28_9
                try clear hfz29_0
                try clear hfz29_1
                try clear hfz29_2
                try clear hfz29_3
                try clear hfz29_4
                try clear hfz29_5
                try clear hfz29_6
                try clear hfz29_7
                try clear hfz29_8
                try clear hfz29_9
                try clear hfz31_0
                try clear hfz31_1
                try clear hfz31_2
                try clear hfz31_3
                try clear hfz31_4
                try clear hfz31_5
                try clear hfz31_6
                try clear hfz31_7
                try clear hfz31_8
                try clear hfz31_9
                try clear hfz32_0
                try clear hfz32_1
                try clear hfz32_2
                try clear hfz32_3
                try clear hfz32_4
                try clear hfz32_5
                try clear hfz32_6
                try clear hfz32_7
                try clear hfz32_8
                try clear hfz32_9
                try clear hfz34_0
                try clear hfz34_1
                try clear hfz34_2
                try clear hfz34_3
                try clear hfz34_4
                try clear hfz34_5
                try clear hfz34_6
                try clear hfz34_7
                try clear hfz34_8
                try clear hfz34_9
                try clear hfz35_0
                try clear hfz35_1
                try clear hfz35_2
                try clear hfz35_3
                try clear hfz35_4
                try clear hfz35_5
                try clear hfz35_6
                try clear hfz35_7
                try clear hfz35_8
                try clear hfz35_9
                try clear hfz37_0
                try clear hfz37_1
                try clear hfz37_2
                try clear hfz37_3
                try clear hfz37_4
                try clear hfz37_5
                try clear hfz37_6
                try clear hfz37_7
                try clear hfz37_8
                try clear hfz37_9
                try clear hfz38_0
                try clear hfz38_1
                try clear hfz38_2
                try clear hfz38_3
                try clear hfz38_4
                try clear hfz38_5
                try clear hfz38_6
                try clear hfz38_7
                try clear hfz38_8
                try clear hfz38_9
                try clear hfz40_0
                try clear hfz40_1
                try clear hfz40_2
                try clear hfz40_3
                try clear hfz40_4
                try clear hfz40_5
                try clear hfz40_6
                try clear hfz40_7
                try clear hfz40_8
                try clear hfz40_9
                try clear hfz41_0
                try clear hfz41_1
                try clear hfz41_2
                try clear hfz41_3
                try clear hfz41_4
                try clear hfz41_5
                try clear hfz41_6
                try clear hfz41_7
                try clear hfz41_8
                try clear hfz41_9
                try clear hfz9_0
                try clear hfz9_1
                try clear hfz9_2
                try clear hfz9_3
                try clear hfz9_4
                try clear hfz9_5
                try clear hfz9_6
                try clear hfz9_7
                try clear hfz9_8
                try clear hfz9_9
                try clear hx115_0
                try clear hx115_1
                try clear hx115_2
                try clear hx115_3
                try clear hx115_4
                try clear hx115_5
                try clear hx115_6
                try clear hx115_7
                try clear hx115_8
                try clear hx115_9
                try clear hx117_0
                try clear hx117_1
                try clear hx117_2
                try clear hx117_3
                try clear hx117_4
                try clear hx117_5
                try clear hx117_6
                try clear hx117_7
                try clear hx117_8
                try clear hx117_9
                try clear p115
                try clear p117
                try clear p2
                try clear q115
                try clear q117
                obtain ⟨kq, x77_6, rfl, HA, HJ6, BK116, BK118, HB⟩ := hcut
                cases kq with
                | zero => exact absurd HA.out (by simp [spec_SameTree.j1])
                | succ kj6 =>
                  have H := HA.out
                  clear HA
                  simp only [spec_SameTree.j1] at H
                  by_cases c42 : x77_6 = true
                  · subst c42
                    have H1 : (some false) = some r := by rw [if_pos rfl] at H; exact H
                    clear H
                    have H := H1
                    clear H1
                    obtain rfl := Option.some.inj H
                    go_wp2
                    repeat (go_quiet (fail); try go_wp2)
                    go_ret
                    exact ⟨by first | rfl | (simp [errW_none, errW_some] <;> rfl) | (simp [*, errW_none, errW_some] <;> rfl), by repeat (first | (with_reducible first | exact HB.out | apply below_alloc | apply pw_below_drewN | apply below_drew1 | refine below_set ?_ GE116.out | refine below_set ?_ GE118.out) | exact HB.out)⟩
                  · replace c42 := Bool.eq_false_iff.mpr c42
                    subst c42
                    have H1 : (spec_SameTree.l1 kj6 l0 l1 x5_1 0 ((rd_T54 l0 x5_1).f0) ((rd_T54 l0 x5_1).f1) ((rd_T54 l0 x5_1).f2) ((rd_T54 l0 x5_1).f3) ((rd_T54 l0 x5_1).f4) ((rd_T54 l0 x5_1).f5) ((rd_T54 l0 x5_1).f6.f0) ((rd_T54 l0 x5_1).f6.f1) ((rd_T54 l0 x5_1).f6.f2) ((rd_T54 l0 x5_1).f7) ((rd_T54 l1 x5_1).f0) ((rd_T54 l1 x5_1).f1) ((rd_T54 l1 x5_1).f2) ((rd_T54 l1 x5_1).f3) ((rd_T54 l1 x5_1).f4) ((rd_T54 l1 x5_1).f5) ((rd_T54 l1 x5_1).f6.f0) ((rd_T54 l1 x5_1).f6.f1) ((rd_T54 l1 x5_1).f6.f2) ((rd_T54 l1 x5_1).f7)) = some r := by rw [if_neg (show ¬ (false = true) by decide)] at H; exact H
                    clear H
                    have H := H1
                    clear H1
                    have H' := Aside0.mk H
                    clear H
                    go_wp2
                    repeat (go_quiet (fail); try go_wp2)
                    go_loopg [8] kj6 (fun kq v8 w' => ∃ (x8_3 : Int), v8 = .int .i64 x8_3 ∧ Aside0 (spec_SameTree.l1 kq l0 l1 x5_1 x8_3 ((rd_T54 l0 x5_1).f0) ((rd_T54 l0 x5_1).f1) ((rd_T54 l0 x5_1).f2) ((rd_T54 l0 x5_1).f3) ((rd_T54 l0 x5_1).f4) ((rd_T54 l0 x5_1).f5) ((rd_T54 l0 x5_1).f6.f0) ((rd_T54 l0 x5_1).f6.f1) ((rd_T54 l0 x5_1).f6.f2) ((rd_T54 l0 x5_1).f7) ((rd_T54 l1 x5_1).f0) ((rd_T54 l1 x5_1).f1) ((rd_T54 l1 x5_1).f2) ((rd_T54 l1 x5_1).f3) ((rd_T54 l1 x5_1).f4) ((rd_T54 l1 x5_1).f5) ((rd_T54 l1 x5_1).f6.f0) ((rd_T54 l1 x5_1).f6.f1) ((rd_T54 l1 x5_1).f6.f2) ((rd_T54 l1 x5_1).f7) = some r) ∧ Aside0 (kq ≤ kj6) ∧ Aside0 (w'.heap[gb116]? = some (.cells #[.int .i64 ((rd_T54 l0 x5_1).f0), .int .i64 ((rd_T54 l0 x5_1).f1), .int .i64 ((rd_T54 l0 x5_1).f2), .int .i64 ((rd_T54 l0 x5_1).f3), (.slice A115_4 ((rd_T54 l0 x5_1).f4).length c115_4), .string ((rd_T54 l0 x5_1).f5), .int .i64 ((rd_T54 l0 x5_1).f6.f0), .int .i64 ((rd_T54 l0 x5_1).f6.f1), (.slice A115_8 ((rd_T54 l0 x5_1).f6.f2).length c115_8), .int .i64 ((rd_T54 l0 x5_1).f7)] 54 (0, 0))) ∧ Aside0 (w'.heap[gb118]? = some (.cells #[.int .i64 ((rd_T54 l1 x5_1).f0), .int .i64 ((rd_T54 l1 x5_1).f1), .int .i64 ((rd_T54 l1 x5_1).f2), .int .i64 ((rd_T54 l1 x5_1).f3), (.slice A117_4 ((rd_T54 l1 x5_1).f4).length c117_4), .string ((rd_T54 l1 x5_1).f5), .int .i64 ((rd_T54 l1 x5_1).f6.f0), .int .i64 ((rd_T54 l1 x5_1).f6.f1), (.slice A117_8 ((rd_T54 l1 x5_1).f6.f2).length c117_8), .int .i64 ((rd_T54 l1 x5_1).f7)] 54 (0, 0))) ∧ Aside0 (Below w.heap.size w w'))
                    case atStart => exact ⟨(0), (by first | rfl | (simp; done) | (simp [*]; done)), H', ⟨Nat.le_refl _⟩, ⟨by (with_reducible repeat (first | refine blk_drewN ?_ _ | refine blk_drew ?_ | refine blk_alloc ?_ _)); exact BK116.out⟩, ⟨by (with_reducible repeat (first | refine blk_drewN ?_ _ | refine blk_drew ?_ | refine blk_alloc ?_ _)); exact BK118.out⟩, ⟨by repeat (first | (with_reducible first | exact HB.out | apply below_alloc | apply pw_below_drewN | apply below_drew1 | refine below_set ?_ GE116.out | refine below_set ?_ GE118.out) | exact HB.out)⟩⟩
                    case round =>
                      clear H'
                      try clear c1
                      try clear p1
                      try clear q1
                      try clear hx1
                      try clear c2
                      try clear p2
                      try clear c3
                      try clear c3b0
                      try clear c3b1
                      try clear c3b2
                      try clear c4
                      try clear c4b0
                      try clear c5
                      try clear c5b0
                      try clear c6
                      try clear c6b0
                      try clear c11
                      try clear p11
                      try clear q11
                      try clear hx11
                      try clear c13
                      try clear c13b0
                      try clear c13b1
                      try clear c14
                      try clear c14b0
                      try clear c14b1
                      try clear c15
                      try clear c15b0
                      try clear c15b1
                      try clear c16
                      try clear c16b0
                      try clear c16b1
                      try clear c17
                      try clear c17b0
                      try clear c17b1
                      try clear c18
                      try clear c18b0
                      try clear c18b1
                      try clear c18b2
                      try clear c20
                      try clear c24
                      try clear c27
                      try clear c30
                      try clear c33
                      try clear c36
                      try clear c39
                      try clear c42
                      try clear hcz12_0
                      try clear hcz12_1
                      try clear hcz12_2
                      try clear hcz12_3
                      try clear hcz12_4
                      try clear hcz12_5
                      try clear hcz12_6
                      try clear hcz12_7
                      try clear hcz12_8
                      try clear hcz12_9
                      try clear hcz21_0
                      try clear hcz21_1
                      try clear hcz21_2
                      try clear hcz21_3
                      try clear hcz21_4
                      try clear hcz21_5
                      try clear hcz21_6
                      try clear hcz21_7
                      try clear hcz21_8
                      try clear hcz21_9
                      try clear hcz22_0
                      try clear hcz22_1
                      try clear hcz22_2
                      try clear hcz22_3
                      try clear hcz22_4
                      try clear hcz22_5
                      try clear hcz22_6
                      try clear hcz22_7
                      try clear hcz22_8
                      try clear hcz22_9
                      try clear hcz25_0
                      try clear hcz25_1
                      try clear hcz25_2
                      try clear hcz25_3
                      try clear hcz25_4
                      try clear hcz25_5
                      try clear hcz25_6
                      try clear hcz25_7
                      try clear hcz25_8
                      try clear hcz25_9
                      try clear hcz26_0
                      try clear hcz26_1
                      try clear hcz26_2
                      try clear hcz26_3
                      try clear hcz26_4
                      try clear hcz26_5
                      try clear hcz26_6
                      try clear hcz26_7
                      try clear hcz26_8
                      try clear hcz26_9
                      try clear hcz28_0
                      try clear hcz28_1
                      try clear hcz28_2
                      try clear hcz28_3
                      try clear hcz28_4
                      try clear hcz28_5
                      try clear hcz28_6
                      try clear hcz28_7
                      try clear hcz28_8
                      try clear hcz28_9
                      try clear hcz29_0
                      try clear hcz29_1
                      try clear hcz29_2
                      try clear hcz29_3
                      try clear hcz29_4
                      try clear hcz29_5
                      try clear hcz29_6
                      try clear hcz29_7
                      try clear hcz29_8
                      try clear hcz29_9
                      try clear hcz31_0
                      try clear hcz31_1
                      try clear hcz31_2
                      try clear hcz31_3
                      try clear hcz31_4
                      try clear hcz31_5
                      try clear hcz31_6
                      try clear hcz31_7
                      try clear hcz31_8
                      try clear hcz31_9
                      try clear hcz32_0
                      try clear hcz32_1
                      try clear hcz32_2
                      try clear hcz32_3
                      try clear hcz32_4
                      try clear hcz32_5
                      try clear hcz32_6
                      try clear hcz32_7
                      try clear hcz32_8
                      try clear hcz32_9
                      try clear hcz34_0
                      try clear hcz34_1
                      try clear hcz34_2
                      try clear hcz34_3
                      try clear hcz34_4
                      try clear hcz34_5
                      try clear hcz34_6
                      try clear hcz34_7
                      try clear hcz34_8
                      try clear hcz34_9
                      try clear hcz35_0
                      try clear hcz35_1
                      try clear hcz35_2
                      try clear hcz35_3
                      try clear hcz35_4
                      try clear hcz35_5
                      try clear hcz35_6
                      try clear hcz35_7
                      try clear hcz35_8
                      try clear hcz35_9
                      try clear hcz37_0
                      try clear hcz37_1
                      try clear hcz37_2
                      try clear hcz37_3
                      try clear hcz37_4
                      try clear hcz37_5
                      try clear hcz37_6
                      try clear hcz37_7
                      try clear hcz37_8
                      try clear hcz37_9
                      try clear hcz38_0
                      try clear hcz38_1
                      try clear hcz38_2
                      try clear hcz38_3
                      try clear hcz38_4
                      try clear hcz38_5
                      try clear hcz38_6
                      try clear hcz38_7
                      try clear hcz38_8
                      try clear hcz38_9
                      try clear hcz40_0
                      try clear hcz40_1
                      try clear hcz40_2
                      try clear hcz40_3
                      try clear hcz40_4
                      try clear hcz40_5
                      try clear hcz40_6
                      try clear hcz40_7
                      try clear hcz40_8
                      try clear hcz40_9
                      try clear hcz41_0
                      try clear hcz41_1
                      try clear hcz41_2
                      try clear hcz41_3
                      try clear hcz41_4
                      try clear hcz41_5
                      try clear hcz41_6
                      try clear hcz41_7
                      try clear hcz41_8
                      try clear hcz41_9
                      try clear hcz9_0
                      try clear hcz9_1
                      try clear hcz9_2
                      try clear hcz9_3
                      try clear hcz9_4
                      try clear hcz9_5
                      try clear hcz9_6
                      try clear hcz9_7
                      try clear hcz9_8
                      try clear hcz9_9
                      try clear hfz12_0
                      try clear hfz12_1
                      try clear hfz12_2
                      try clear hfz12_3
                      try clear hfz12_4
                      try clear hfz12_5
                      try clear hfz12_6
                      try clear hfz12_7
                      try clear hfz12_8
                      try clear hfz12_9
                      try clear hfz21_0
                      try clear hfz21_1
                      try clear hfz21_2
                      try clear hfz21_3
                      try clear hfz21_4
                      try clear hfz21_5
                      try clear hfz21_6
                      try clear hfz21_7
                      try clear hfz21_8
                      try clear hfz21_9
                      try clear hfz22_0
                      try clear hfz22_1
                      try clear hfz22_2
                      try clear hfz22_3
                      try clear hfz22_4
                      try clear hfz22_5
                      try clear hfz22_6
                      try clear hfz22_7
                      try clear hfz22_8
                      try clear hfz22_9
                      try clear hfz25_0
                      try clear hfz25_1
                      try clear hfz25_2
                      try clear hfz25_3
                      try clear hfz25_4
                      try clear hfz25_5
                      try clear hfz25_6
                      try clear hfz25_7
                      try clear hfz25_8
                      try clear hfz25_9
                      try clear hfz26_0
                      try clear hfz26_1
                      try clear hfz26_2
                      try clear hfz26_3
                      try clear hfz26_4
                      try clear hfz26_5
                      try clear hfz26_6
                      try clear hfz26_7
                      try clear hfz26_8
                      try clear hfz26_9
                      try clear hfz28_0
                      try clear hfz28_1
                      try clear hfz28_2
                      try clear hfz28_3
                      try clear hfz28_4
                      try clear hfz28_5
                      try clear hfz28_6
                      try clear hfz28_7
                      try clear hfz28_8
                      try clear hfz28_9
                      try clear hfz29_0
                      try clear hfz29_1
                      try clear hfz29_2
                      try clear hfz29_3
                      try clear hfz29_4
                      try clear hfz29_5
                      try clear hfz29_6
                      try clear hfz29_7
                      try clear hfz29_8
                      try clear hfz29_9
                      try clear hfz31_0
                      try clear hfz31_1
                      try clear hfz31_2
                      try clear hfz31_3
                      try clear hfz31_4
                      try clear hfz31_5
                      try clear hfz31_6
                      try clear hfz31_7
                      try clear hfz31_8
                      try clear hfz31_9
                      try clear hfz32_0
                      try clear hfz32_1
                      try clear hfz32_2
                      try clear hfz32_3
                      try clear hfz32_4
                      try clear hfz32_5
                      try clear hfz32_6
                      try clear hfz32_7
                      try clear hfz32_8
                      try clear hfz32_9
                      try clear hfz34_0
                      try clear hfz34_1
                      try clear hfz34_2
                      try clear hfz34_3
                      try clear hfz34_4
                      try clear hfz34_5
                      try clear hfz34_6
                      try clear hfz34_7
                      try clear hfz34_8
                      try clear hfz34_9
                      try clear hfz35_0
                      try clear hfz35_1
                      try clear hfz35_2
                      try clear hfz35_3
                      try clear hfz35_4
                      try clear hfz35_5
                      try clear hfz35_6
                      try clear hfz35_7
                      try clear hfz35_8
                      try clear hfz35_9
                      try clear hfz37_0
                      try clear hfz37_1
                      try clear hfz37_2
                      try clear hfz37_3
                      try clear hfz37_4
                      try clear hfz37_5
                      try clear hfz37_6
                      try clear hfz37_7
                      try clear hfz37_8
                      try clear hfz37_9
                      try clear hfz38_0
                      try clear hfz38_1
                      try clear hfz38_2
                      try clear hfz38_3
                      try clear hfz38_4
                      try clear hfz38_5
                      try clear hfz38_6
                      try clear hfz38_7
                      try clear hfz38_8
                      try clear hfz38_9
                      try clear hfz40_0
                      try clear hfz40_1
                      try clear hfz40_2
                      try clear hfz40_3
                      try clear hfz40_4
                      try clear hfz40_5
                      try clear hfz40_6
                      try clear hfz40_7
                      try clear hfz40_8
                      try clear hfz40_9
                      try clear hfz41_0
                      try clear hfz41_1
                      try clear hfz41_2
                      try clear hfz41_3
                      try clear hfz41_4
                      try clear hfz41_5
                      try clear hfz41_6
                      try clear hfz41_7
                      try clear hfz41_8
                      try clear hfz41_9
                      try clear hfz9_0
                      try clear hfz9_1
                      try clear hfz9_2
                      try clear hfz9_3
                      try clear hfz9_4
                      try clear hfz9_5
                      try clear hfz9_6
                      try clear hfz9_7
                      try clear hfz9_8
                      try clear hfz9_9
                      try clear hx115_0
                      try clear hx115_1
                      try clear hx115_2
                      try clear hx115_3
                      try clear hx115_4
                      try clear hx115_5
                      try clear hx115_6
                      try clear hx115_7
                      try clear hx115_8
                      try clear hx115_9
                      try clear hx117_0
                      try clear hx117_1
                      try clear hx117_2
                      try clear hx117_3
                      try clear hx117_4
                      try clear hx117_5
                      try clear hx117_6
                      try clear hx117_7
                      try clear hx117_8
                      try clear hx117_9
                      try clear p1
                      try clear p11
                      try clear p115
                      try clear p117
                      try clear p2
                      try clear q1
                      try clear q11
                      try clear q115
                      try clear q117
                      obtain ⟨x8_3, rfl, HA, HK3, BK116, BK118, HB⟩ := hrel
                      cases gk with
                      | zero => exact absurd HA.out (by simp [spec_SameTree.l1])
                      | succ k3 =>
                        have H := HA.out
                        clear HA
                        simp only [spec_SameTree.l1] at H
                        by_cases c43 : x8_3 < (((rd_T54 l0 x5_1).f4).length : Int)
                        · rw [if_pos c43] at H
                          have c43b0 : decide (x8_3 < (((rd_T54 l0 x5_1).f4).length : Int)) = true := decide_eq_true c43
                          clear c43
                          by_cases c44 : 0 ≤ x8_3
                          · rw [if_pos c44] at H
                            have c44b0 : decide (0 ≤ x8_3) = true := decide_eq_true c44
                            clear c44
                            by_cases c45 : x8_3 < (((rd_T54 l1 x5_1).f4).length : Int)
                            · rw [if_pos c45] at H
                              have c45b0 : decide (x8_3 < (((rd_T54 l1 x5_1).f4).length : Int)) = true := decide_eq_true c45
                              clear c45
                              by_cases c46 : (rd ((rd_T54 l0 x5_1).f4) x8_3) = (rd ((rd_T54 l1 x5_1).f4) x8_3)
                              · rw [if_pos c46] at H
                                have c46b0 : ((rd ((rd_T54 l0 x5_1).f4) x8_3) == (rd ((rd_T54 l1 x5_1).f4) x8_3)) = true := beq_iff_eq.mpr c46
                                have c46b1 : ((rd ((rd_T54 l0 x5_1).f4) x8_3) != (rd ((rd_T54 l1 x5_1).f4) x8_3)) = false := bne_eq_false_iff_eq.mpr c46
                                clear c46
                                have H' := Aside0.mk H
                                clear H
                                have hnb47 := NB116_118.out
                                have hnc47 := NB118_116.out
                                have hcz48_0 : wr.cell? ⟨gb116, 0, none⟩ = some (.int .i64 ((rd_T54 l0 x5_1).f0)) := (blk_cell BK116.out 0).trans rfl
                                have hcz48_1 : wr.cell? ⟨gb116, 1, none⟩ = some (.int .i64 ((rd_T54 l0 x5_1).f1)) := (blk_cell BK116.out 1).trans rfl
                                have hcz48_2 : wr.cell? ⟨gb116, 2, none⟩ = some (.int .i64 ((rd_T54 l0 x5_1).f2)) := (blk_cell BK116.out 2).trans rfl
                                have hcz48_3 : wr.cell? ⟨gb116, 3, none⟩ = some (.int .i64 ((rd_T54 l0 x5_1).f3)) := (blk_cell BK116.out 3).trans rfl
                                have hcz48_4 : wr.cell? ⟨gb116, 4, none⟩ = some (.slice A115_4 ((rd_T54 l0 x5_1).f4).length c115_4) := (blk_cell BK116.out 4).trans rfl
                                have hcz48_5 : wr.cell? ⟨gb116, 5, none⟩ = some (.string ((rd_T54 l0 x5_1).f5)) := (blk_cell BK116.out 5).trans rfl
                                have hcz48_6 : wr.cell? ⟨gb116, 6, none⟩ = some (.int .i64 ((rd_T54 l0 x5_1).f6.f0)) := (blk_cell BK116.out 6).trans rfl
                                have hcz48_7 : wr.cell? ⟨gb116, 7, none⟩ = some (.int .i64 ((rd_T54 l0 x5_1).f6.f1)) := (blk_cell BK116.out 7).trans rfl
                                have hcz48_8 : wr.cell? ⟨gb116, 8, none⟩ = some (.slice A115_8 ((rd_T54 l0 x5_1).f6.f2).length c115_8) := (blk_cell BK116.out 8).trans rfl
                                have hcz48_9 : wr.cell? ⟨gb116, 9, none⟩ = some (.int .i64 ((rd_T54 l0 x5_1).f7)) := (blk_cell BK116.out 9).trans rfl
                                have hfz48_0 := blk_frozen BK116.out 0
                                have hfz48_1 := blk_frozen BK116.out 1
                                have hfz48_2 := blk_frozen BK116.out 2
                                have hfz48_3 := blk_frozen BK116.out 3
                                have hfz48_4 := blk_frozen BK116.out 4
                                have hfz48_5 := blk_frozen BK116.out 5
                                have hfz48_6 := blk_frozen BK116.out 6
                                have hfz48_7 := blk_frozen BK116.out 7
                                have hfz48_8 := blk_frozen BK116.out 8
                                have hfz48_9 := blk_frozen BK116.out 9
                                have p120 : 0 ≤ (x8_3 : Int) := of_decide_eq_true (by first | (with_reducible assumption) | assumption)
                                have q120 : x8_3 < (((rd_T54 l0 x5_1).f4).length : Int) := of_decide_eq_true (by first | (with_reducible assumption) | assumption)
                                obtain ⟨ad120, e120, hx120_0⟩ := Kd.at_int HR115_4.out x8_3 p120 q120
                                cases e120
                                replace hx120_0 := (HB.out.cell (World.block_lt_of_cell? w _ hx120_0)).trans hx120_0
                                replace p120 := eq_true p120
                                replace q120 := eq_true q120
                                have hcz49_0 : wr.cell? ⟨gb118, 0, none⟩ = some (.int .i64 ((rd_T54 l1 x5_1).f0)) := (blk_cell BK118.out 0).trans rfl
                                have hcz49_1 : wr.cell? ⟨gb118, 1, none⟩ = some (.int .i64 ((rd_T54 l1 x5_1).f1)) := (blk_cell BK118.out 1).trans rfl
                                have hcz49_2 : wr.cell? ⟨gb118, 2, none⟩ = some (.int .i64 ((rd_T54 l1 x5_1).f2)) := (blk_cell BK118.out 2).trans rfl
                                have hcz49_3 : wr.cell? ⟨gb118, 3, none⟩ = some (.int .i64 ((rd_T54 l1 x5_1).f3)) := (blk_cell BK118.out 3).trans rfl
                                have hcz49_4 : wr.cell? ⟨gb118, 4, none⟩ = some (.slice A117_4 ((rd_T54 l1 x5_1).f4).length c117_4) := (blk_cell BK118.out 4).trans rfl
                                have hcz49_5 : wr.cell? ⟨gb118, 5, none⟩ = some (.string ((rd_T54 l1 x5_1).f5)) := (blk_cell BK118.out 5).trans rfl
                                have hcz49_6 : wr.cell? ⟨gb118, 6, none⟩ = some (.int .i64 ((rd_T54 l1 x5_1).f6.f0)) := (blk_cell BK118.out 6).trans rfl
                                have hcz49_7 : wr.cell? ⟨gb118, 7, none⟩ = some (.int .i64 ((rd_T54 l1 x5_1).f6.f1)) := (blk_cell BK118.out 7).trans rfl
                                have hcz49_8 : wr.cell? ⟨gb118, 8, none⟩ = some (.slice A117_8 ((rd_T54 l1 x5_1).f6.f2).length c117_8) := (blk_cell BK118.out 8).trans rfl
                                have hcz49_9 : wr.cell? ⟨gb118, 9, none⟩ = some (.int .i64 ((rd_T54 l1 x5_1).f7)) := (blk_cell BK118.out 9).trans rfl
                                have hfz49_0 := blk_frozen BK118.out 0
                                have hfz49_1 := blk_frozen BK118.out 1
                                have hfz49_2 := blk_frozen BK118.out 2
                                have hfz49_3 := blk_frozen BK118.out 3
                                have hfz49_4 := blk_frozen BK118.out 4
                                have hfz49_5 := blk_frozen BK118.out 5
                                have hfz49_6 := blk_frozen BK118.out 6
                                have hfz49_7 := blk_frozen BK118.out 7
                                have hfz49_8 := blk_frozen BK118.out 8
                                have hfz49_9 := blk_frozen BK118.out 9
                                have p121 : 0 ≤ (x8_3 : Int) := of_decide_eq_true (by first | (with_reducible assumption) | assumption)
                                have q121 : x8_3 < (((rd_T54 l1 x5_1).f4).length : Int) := of_decide_eq_true (by first | (with_reducible assumption) | assumption)
                                obtain ⟨ad121, e121, hx121_0⟩ := Kd.at_int HR117_4.out x8_3 p121 q121
                                cases e121
                                replace hx121_0 := (HB.out.cell (World.block_lt_of_cell? w _ hx121_0)).trans hx121_0
                                replace p121 := eq_true p121
                                replace q121 := eq_true q121
                                go_wp2
                                repeat (go_quiet (fail); try go_wp2)
                                go_roundg k3
                                case measure => have := HK1.out; have := HJ6.out; have := HK3.out; omega
                                case rel => exact ⟨(wrap64 (x8_3 + 1)), (by first | rfl | (simp; done) | (simp [*]; done)), H', ⟨by have := HK1.out; have := HJ6.out; have := HK3.out; omega⟩, ⟨by (with_reducible repeat (first | refine blk_drewN ?_ _ | refine blk_drew ?_ | refine blk_alloc ?_ _)); exact BK116.out⟩, ⟨by (with_reducible repeat (first | refine blk_drewN ?_ _ | refine blk_drew ?_ | refine blk_alloc ?_ _)); exact BK118.out⟩, ⟨by repeat (first | (with_reducible first | exact HB.out | apply below_alloc | apply pw_below_drewN | apply below_drew1 | refine below_set ?_ GE116.out | refine below_set ?_ GE118.out) | exact HB.out)⟩⟩
                              · rw [if_neg c46] at H
                                have c46b0 : ((rd ((rd_T54 l0 x5_1).f4) x8_3) == (rd ((rd_T54 l1 x5_1).f4) x8_3)) = false := beq_eq_false_iff_ne.mpr c46
                                have c46b1 : ((rd ((rd_T54 l0 x5_1).f4) x8_3) != (rd ((rd_T54 l1 x5_1).f4) x8_3)) = true := bne_iff_ne.mpr c46
                                obtain rfl := Option.some.inj H
                                have hnb50 := NB116_118.out
                                have hnc50 := NB118_116.out
                                have hcz51_0 : wr.cell? ⟨gb116, 0, none⟩ = some (.int .i64 ((rd_T54 l0 x5_1).f0)) := (blk_cell BK116.out 0).trans rfl
                                have hcz51_1 : wr.cell? ⟨gb116, 1, none⟩ = some (.int .i64 ((rd_T54 l0 x5_1).f1)) := (blk_cell BK116.out 1).trans rfl
                                have hcz51_2 : wr.cell? ⟨gb116, 2, none⟩ = some (.int .i64 ((rd_T54 l0 x5_1).f2)) := (blk_cell BK116.out 2).trans rfl
                                have hcz51_3 : wr.cell? ⟨gb116, 3, none⟩ = some (.int .i64 ((rd_T54 l0 x5_1).f3)) := (blk_cell BK116.out 3).trans rfl
                                have hcz51_4 : wr.cell? ⟨gb116, 4, none⟩ = some (.slice A115_4 ((rd_T54 l0 x5_1).f4).length c115_4) := (blk_cell BK116.out 4).trans rfl
                                have hcz51_5 : wr.cell? ⟨gb116, 5, none⟩ = some (.string ((rd_T54 l0 x5_1).f5)) := (blk_cell BK116.out 5).trans rfl
                                have hcz51_6 : wr.cell? ⟨gb116, 6, none⟩ = some (.int .i64 ((rd_T54 l0 x5_1).f6.f0)) := (blk_cell BK116.out 6).trans rfl
                                have hcz51_7 : wr.cell? ⟨gb116, 7, none⟩ = some (.int .i64 ((rd_T54 l0 x5_1).f6.f1)) := (blk_cell BK116.out 7).trans rfl
                                have hcz51_8 : wr.cell? ⟨gb116, 8, none⟩ = some (.slice A115_8 ((rd_T54 l0 x5_1).f6.f2).length c115_8) := (blk_cell BK116.out 8).trans rfl
                                have hcz51_9 : wr.cell? ⟨gb116, 9, none⟩ = some (.int .i64 ((rd_T54 l0 x5_1).f7)) := (blk_cell BK116.out 9).trans rfl
                                have hfz51_0 := blk_frozen BK116.out 0
                                have hfz51_1 := blk_frozen BK116.out 1
                                have hfz51_2 := blk_frozen BK116.out 2
                                have hfz51_3 := blk_frozen BK116.out 3
                                have hfz51_4 := blk_frozen BK116.out 4
                                have hfz51_5 := blk_frozen BK116.out 5
                                have hfz51_6 := blk_frozen BK116.out 6
                                have hfz51_7 := blk_frozen BK116.out 7
                                have hfz51_8 := blk_frozen BK116.out 8
                                have hfz51_9 := blk_frozen BK116.out 9
                                have p120 : 0 ≤ (x8_3 : Int) := of_decide_eq_true (by first | (with_reducible assumption) | assumption)
                                have q120 : x8_3 < (((rd_T54 l0 x5_1).f4).length : Int) := of_decide_eq_true (by first | (with_reducible assumption) | assumption)
                                obtain ⟨ad120, e120, hx120_0⟩ := Kd.at_int HR115_4.out x8_3 p120 q120
                                cases e120
                                replace hx120_0 := (HB.out.cell (World.block_lt_of_cell? w _ hx120_0)).trans hx120_0
                                replace p120 := eq_true p120
                                replace q120 := eq_true q120
                                have hcz52_0 : wr.cell? ⟨gb118, 0, none⟩ = some (.int .i64 ((rd_T54 l1 x5_1).f0)) := (blk_cell BK118.out 0).trans rfl
                                have hcz52_1 : wr.cell? ⟨gb118, 1, none⟩ = some (.int .i64 ((rd_T54 l1 x5_1).f1)) := (blk_cell BK118.out 1).trans rfl
                                have hcz52_2 : wr.cell? ⟨gb118, 2, none⟩ = some (.int .i64 ((rd_T54 l1 x5_1).f2)) := (blk_cell BK118.out 2).trans rfl
                                have hcz52_3 : wr.cell? ⟨gb118, 3, none⟩ = some (.int .i64 ((rd_T54 l1 x5_1).f3)) := (blk_cell BK118.out 3).trans rfl
                                have hcz52_4 : wr.cell? ⟨gb118, 4, none⟩ = some (.slice A117_4 ((rd_T54 l1 x5_1).f4).length c117_4) := (blk_cell BK118.out 4).trans rfl
                                have hcz52_5 : wr.cell? ⟨gb118, 5, none⟩ = some (.string ((rd_T54 l1 x5_1).f5)) := (blk_cell BK118.out 5).trans rfl
                                have hcz52_6 : wr.cell? ⟨gb118, 6, none⟩ = some (.int .i64 ((rd_T54 l1 x5_1).f6.f0)) := (blk_cell BK118.out 6).trans rfl
                                have hcz52_7 : wr.cell? ⟨gb118, 7, none⟩ = some (.int .i64 ((rd_T54 l1 x5_1).f6.f1)) := (blk_cell BK118.out 7).trans rfl
                                have hcz52_8 : wr.cell? ⟨gb118, 8, none⟩ = some (.slice A117_8 ((rd_T54 l1 x5_1).f6.f2).length c117_8) := (blk_cell BK118.out 8).trans rfl
                                have hcz52_9 : wr.cell? ⟨gb118, 9, none⟩ = some (.int .i64 ((rd_T54 l1 x5_1).f7)) := (blk_cell BK118.out 9).trans rfl
                                have hfz52_0 := blk_frozen BK118.out 0
                                have hfz52_1 := blk_frozen BK118.out 1
                                have hfz52_2 := blk_frozen BK118.out 2
                                have hfz52_3 := blk_frozen BK118.out 3
                                have hfz52_4 := blk_frozen BK118.out 4
                                have hfz52_5 := blk_frozen BK118.out 5
                                have hfz52_6 := blk_frozen BK118.out 6
                                have hfz52_7 := blk_frozen BK118.out 7
                                have hfz52_8 := blk_frozen BK118.out 8
                                have hfz52_9 := blk_frozen BK118.out 9
                                have p121 : 0 ≤ (x8_3 : Int) := of_decide_eq_true (by first | (with_reducible assumption) | assumption)
                                have q121 : x8_3 < (((rd_T54 l1 x5_1).f4).length : Int) := of_decide_eq_true (by first | (with_reducible assumption) | assumption)
                                obtain ⟨ad121, e121, hx121_0⟩ := Kd.at_int HR117_4.out x8_3 p121 q121
                                cases e121
                                replace hx121_0 := (HB.out.cell (World.block_lt_of_cell? w _ hx121_0)).trans hx121_0
                                replace p121 := eq_true p121
                                replace q121 := eq_true q121
                                go_wp2
                                repeat (go_quiet (fail); try go_wp2)
                                go_ret
                                exact ⟨by first | rfl | (simp [errW_none, errW_some] <;> rfl) | (simp [*, errW_none, errW_some] <;> rfl), by repeat (first | (with_reducible first | exact HB.out | apply below_alloc | apply pw_below_drewN | apply below_drew1 | refine below_set ?_ GE116.out | refine below_set ?_ GE118.out) | exact HB.out)⟩
                            · rw [if_neg c45] at H
                              exact absurd H (by simp)
                          · rw [if_neg c44] at H
                            exact absurd H (by simp)
                        · rw [if_neg c43] at H
                          have c43b0 : decide (x8_3 < (((rd_T54 l0 x5_1).f4).length : Int)) = false := decide_eq_false c43
                          clear c43
                          have H' := Aside0.mk H
                          clear H
                          have hnb53 := NB116_118.out
                          have hnc53 := NB118_116.out
                          have hcz54_0 : wr.cell? ⟨gb116, 0, none⟩ = some (.int .i64 ((rd_T54 l0 x5_1).f0)) := (blk_cell BK116.out 0).trans rfl
                          have hcz54_1 : wr.cell? ⟨gb116, 1, none⟩ = some (.int .i64 ((rd_T54 l0 x5_1).f1)) := (blk_cell BK116.out 1).trans rfl
                          have hcz54_2 : wr.cell? ⟨gb116, 2, none⟩ = some (.int .i64 ((rd_T54 l0 x5_1).f2)) := (blk_cell BK116.out 2).trans rfl
                          have hcz54_3 : wr.cell? ⟨gb116, 3, none⟩ = some (.int .i64 ((rd_T54 l0 x5_1).f3)) := (blk_cell BK116.out 3).trans rfl
                          have hcz54_4 : wr.cell? ⟨gb116, 4, none⟩ = some (.slice A115_4 ((rd_T54 l0 x5_1).f4).length c115_4) := (blk_cell BK116.out 4).trans rfl
                          have hcz54_5 : wr.cell? ⟨gb116, 5, none⟩ = some (.string ((rd_T54 l0 x5_1).f5)) := (blk_cell BK116.out 5).trans rfl
                          have hcz54_6 : wr.cell? ⟨gb116, 6, none⟩ = some (.int .i64 ((rd_T54 l0 x5_1).f6.f0)) := (blk_cell BK116.out 6).trans rfl
                          have hcz54_7 : wr.cell? ⟨gb116, 7, none⟩ = some (.int .i64 ((rd_T54 l0 x5_1).f6.f1)) := (blk_cell BK116.out 7).trans rfl
                          have hcz54_8 : wr.cell? ⟨gb116, 8, none⟩ = some (.slice A115_8 ((rd_T54 l0 x5_1).f6.f2).length c115_8) := (blk_cell BK116.out 8).trans rfl
                          have hcz54_9 : wr.cell? ⟨gb116, 9, none⟩ = some (.int .i64 ((rd_T54 l0 x5_1).f7)) := (blk_cell BK116.out 9).trans rfl
                          have hfz54_0 := blk_frozen BK116.out 0
                          have hfz54_1 := blk_frozen BK116.out 1
                          have hfz54_2 := blk_frozen BK116.out 2
                          have hfz54_3 := blk_frozen BK116.out 3
                          have hfz54_4 := blk_frozen BK116.out 4
                          have hfz54_5 := blk_frozen BK116.out 5
                          have hfz54_6 := blk_frozen BK116.out 6
                          have hfz54_7 := blk_frozen BK116.out 7
                          have hfz54_8 := blk_frozen BK116.out 8
                          have hfz54_9 := blk_frozen BK116.out 9
                          go_wp2
                          repeat (go_quiet (fail); try go_wp2)
                          go_roundg k3
                          case measure => have := HK1.out; have := HJ6.out; have := HK3.out; omega
                          case rel => exact ⟨(wrap64 (x5_1 + 1)), (by first | rfl | (simp; done) | (simp [*]; done)), H', ⟨by have := HK1.out; have := HJ6.out; have := HK3.out; omega⟩, ⟨by repeat (first | (with_reducible first | exact HB.out | apply below_alloc | apply pw_below_drewN | apply below_drew1 | refine below_set ?_ GE116.out | refine below_set ?_ GE118.out) | exact HB.out)⟩⟩
            · rw [if_neg c6] at H
              exact absurd H (by simp)
          · rw [if_neg c5] at H
            exact absurd H (by simp)
        · rw [if_neg c4] at H
          have c4b0 : decide (x5_1 < (l0.length : Int)) = false := decide_eq_false c4
          clear c4
          obtain rfl := Option.some.inj H
          go_wp2
          repeat (go_quiet (fail); try go_wp2)
          go_ret
          exact ⟨by first | rfl | (simp [errW_none, errW_some] <;> rfl) | (simp [*, errW_none, errW_some] <;> rfl), by repeat (first | (with_reducible first | exact HB.out | apply below_alloc | apply pw_below_drewN | apply below_drew1) | exact HB.out)⟩
  · rw [if_neg c3] at H
    have c3b0 : ((l0.length : Int) == (l1.length : Int)) = false := beq_eq_false_iff_ne.mpr c3
    have c3b1 : ((l0.length : Int) != (l1.length : Int)) = true := bne_iff_ne.mpr c3
    have c3b2 : (l0.length == l1.length) = false := by first | simpa using c3 | (simp at c3 ⊢; omega)
    obtain rfl := Option.some.inj H
    go_enter Try.func11, Try.ntmps11
    go_wp2
    repeat (go_quiet (fail); try go_wp2)
    go_ret
    exact ⟨by first | rfl | (simp [errW_none, errW_some] <;> rfl) | (simp [*, errW_none, errW_some] <;> rfl), by repeat (first | (with_reducible first | exact HB.out | apply below_alloc | apply pw_below_drewN | apply below_drew1) | exact HB.out)⟩

end Go.Proofs.Ytokhjlaomgimmaa.PFnExactSameTree
