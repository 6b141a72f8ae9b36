/- impl.ChainCost by hand: the table's entry. -/
import Derived.Test.YtokhjlaomgimmaaDoorBests
namespace Go.Proofs.YtokhjlaomgimmaaDoor.PFnChains
open Go.RowKit Go.Proofs.YtokhjlaomgimmaaDoorW.PrintWords Go.Proofs.YtokhjlaomgimmaaDoorW.PrintLast Go.Proofs.YtokhjlaomgimmaaDoorW.PrintMore
attribute [local go_sem] max2_int min2_int max_two min_two max_three min_three max_four min_four   -- for this text's walks alone
set_option linter.unusedVariables false
set_option linter.unusedSimpArgs false
def impl_ChainCost.f (k : Nat) (l0 : List Int) : Option (Int) := (impl_DimsOk.f k l0).bind fun t138 => (if t138 = true then ((impl_bests.f k l0).bind fun t139 => (if 2 ≤ l0.length ∧ l0.length ≤ 8 ∧ t139.length = 112 then (some (rd t139 (2 * ((l0.length : Int) - 1)))) else (none))) else (some (-1)))
theorem impl_ChainCost.mono : ∀ a0 k, LeO (impl_ChainCost.f k a0) (impl_ChainCost.f (k + 1) a0) := by
  intro a0 k
  unfold impl_ChainCost.f
  repeat' first
      | (with_reducible exact impl_DimsOk.mono _ _)
      | (with_reducible exact impl_bests.mono _ _)
      | (with_reducible exact LeO.refl _)
      | (with_reducible exact LeO.none _)
      | (with_reducible refine LeO.ite ?_ ?_)
      | (with_reducible refine LeO.bind ?_ (fun _ => ?_))
theorem chain_cell {w : World} {t : List Int} {n : Nat} (hl : t.length = 112) (h1 : 2 ≤ n) (h8 : n ≤ 8) : ((w.alloc (Obj.cells Tryd.zeroCells61 61)).setRow w.heap.size (tabCs t)).cell? ⟨w.heap.size, (n - 1) * 2, none⟩ = some (.int .i64 (rd t (2 * ((n : Int) - 1)))) :=
  tab_cell (T := 61) (setRow_heap _ _ Tryd.zeroCells61 (tabCs t) 61 (0, 0) (blk_new w _)) hl (by omega) (by omega) (by omega)
set_option maxHeartbeats 8000000 in
set_option maxRecDepth 100000 in
theorem impl_ChainCost.calls (k : Nat) (A0 : Option Addr) (c0 : Nat) (l0 : List Int) (r : Int) (w : World) (hr0 : Kd.C (Kd.int .i64) w A0 l0.length l0) (hc0 : l0.length ≤ c0) (h : impl_ChainCost.f k l0 = some r) :
    Calls Tryd.prog 13 #[.slice A0 l0.length c0] w fun e w' => e = .returned (.int .i64 r) ∧ Below w.heap.size w w' := by
  have HR0 := Aside0.mk hr0
  have HC0 := Aside0.mk hc0
  clear hr0 hc0
  have HB := Aside0.mk (Below.refl w.heap.size w)
  replace h := Option.bind_eq_some_iff.mp h
  obtain ⟨t138, A20, H⟩ := h
  have A2 := Aside0.mk A20
  clear A20
  cases t138 with
  | true =>
    rw [if_pos rfl] at H
    replace H := Option.bind_eq_some_iff.mp H
    obtain ⟨t139, A40, H⟩ := H
    have A4 := Aside0.mk A40
    clear A40
    by_cases hG : 2 ≤ l0.length ∧ l0.length ≤ 8 ∧ t139.length = 112
    · rw [if_pos hG] at H
      obtain rfl := Option.some.inj H
      clear H
      obtain ⟨g2, g8, gl⟩ := hG
      have HL := Aside0.mk gl
      have e1 : wrap64 ((l0.length : Int) - 1) = (l0.length : Int) - 1 := wrap64_id (by omega) (by omega)
      have p1 := eq_true (show (0 : Int) ≤ (l0.length : Int) - 1 by omega)
      have q1 := eq_true (show (l0.length : Int) - 1 < 8 by omega)
      have p2 := eq_true (show (1 : Int) ≤ (l0.length : Int) by omega)
      have p3 := eq_true (show 1 ≤ l0.length by omega)
      have G2 := Aside0.mk g2
      have G8 := Aside0.mk g8
      clear g2 g8 gl
      go_enter Tryd.func13, Tryd.ntmps13
      go_wp2_with (first | ((with_reducible refine gate_callee (f := 15) rfl ?_); refine goesL_ (some 5) rfl rfl Tryd.func15 (by kernel_rfl) rfl #[.slice A0 l0.length c0] rfl (by (try simp only [List.map_toArray, List.map_cons, List.map_nil]); first | done | rfl | (simp only [List.length_drop, List.length_take]; rfl)) ?_; (with_reducible refine (impl_DimsOk.calls k _ _ l0 true _ ?side1 ?side2 A2.out).mono ?_); (case side1 => repeat (first | exact HR0.out | (with_reducible refine Kd.C_alloc ?_ _) | (with_reducible refine Kd.C_drewN ?_ _) | (with_reducible refine Kd.C_drew ?_))); (case side2 => exact HC0.out); rintro e w' ⟨rfl, ⟨nd, rfl⟩⟩; refine ⟨_, rfl, ?_⟩) | ((with_reducible refine gate_callee (f := 37) rfl ?_); refine goesL_ (some 8) rfl rfl Tryd.func37 (by kernel_rfl) rfl #[.slice A0 l0.length c0] rfl (by (try simp only [List.map_toArray, List.map_cons, List.map_nil]); first | done | rfl | (simp only [List.length_drop, List.length_take]; rfl)) ?_; (with_reducible refine (impl_bests.calls k _ _ l0 t139 _ ?side1 ?side2 A4.out).mono ?_); (case side1 => repeat (first | exact HR0.out | (with_reducible refine Kd.C_alloc ?_ _) | (with_reducible refine Kd.C_drewN ?_ _) | (with_reducible refine Kd.C_drew ?_))); (case side2 => exact HC0.out); rintro e w12 ⟨rfl, hb⟩; refine ⟨_, rfl, ?_⟩; have n1_ := Aside0.mk (below_step (by repeat (first | (with_reducible first | exact HB.out | apply below_alloc | apply pw_below_drewN | apply below_drew1) | exact HB.out)) hb); clear HB; have HB := n1_; clear n1_ hb; have hcc := chain_cell (w := w12) HL.out G2.out G8.out) | ((with_reducible refine gate_store (t := 61) (p := 3) (v := .tmp 8) rfl ?_); refine wpList_store_row rfl 61 (.tmp 3) (.tmp 8) rfl (w12.heap.size) (tabCs t139) rfl rfl 61 Tryd.zeroCells61 (blk_new w12 _) (tab_info HL.out) (tab_size HL.out) (tab_one t139) ?_))
      go_ret
      exact ⟨rfl, below_setRow (below_alloc HB.out _) (below_size HB.out) _⟩
    · rw [if_neg hG] at H
      exact absurd H (by simp)
  | false =>
    rw [if_neg (show ¬ (false = true) by decide)] at H
    obtain rfl := Option.some.inj H
    go_enter Tryd.func13, Tryd.ntmps13
    go_wp2_with (first | ((with_reducible refine gate_callee (f := 15) rfl ?_); refine goesL_ (some 5) rfl rfl Tryd.func15 (by kernel_rfl) rfl #[.slice A0 l0.length c0] rfl (by (try simp only [List.map_toArray, List.map_cons, List.map_nil]); first | done | rfl | (simp only [List.length_drop, List.length_take]; rfl)) ?_; (with_reducible refine (impl_DimsOk.calls k _ _ l0 false _ ?side1 ?side2 A2.out).mono ?_); (case side1 => repeat (first | exact HR0.out | (with_reducible refine Kd.C_alloc ?_ _) | (with_reducible refine Kd.C_drewN ?_ _) | (with_reducible refine Kd.C_drew ?_))); (case side2 => exact HC0.out); rintro e w' ⟨rfl, ⟨nd, rfl⟩⟩; refine ⟨_, rfl, ?_⟩))
    go_ret
    exact ⟨rfl, by repeat (first | (with_reducible first | exact HB.out | apply below_alloc | apply pw_below_drewN | apply below_drew1) | exact HB.out)⟩
end Go.Proofs.YtokhjlaomgimmaaDoor.PFnChains
