/- impl.bests by hand: the table of the parts' bests, an array of arrays of structs, as 112 whole numbers. -/
import Derived.Test.YtokhjlaomgimmaaDoorQFnChainsx2
import Derived.Deep.MidRow
import Derived.Laws.CopyOwn
namespace Go.Proofs.YtokhjlaomgimmaaDoor.PFnChains
open Go.RowKit Go.Proofs.YtokhjlaomgimmaaDoorW.PrintWords Go.Proofs.YtokhjlaomgimmaaDoorW.PrintLast Go.Proofs.YtokhjlaomgimmaaDoorW.PrintMore
attribute [local go_sem] max2_int min2_int max_two min_two max_three min_three max_four min_four   -- for this text's walks alone
set_option linter.unusedVariables false
set_option linter.unusedSimpArgs false

/-- The bounds at a place of the innermost loop. -/
def Gd (d t : List Int) (c f a : Int) : Prop := 0 ≤ f ∧ 1 ≤ a ∧ a < c ∧ f + c ≤ 7 ∧ f + c < d.length ∧ t.length = 112
instance (d t : List Int) (c f a : Int) : Decidable (Gd d t c f a) := by unfold Gd; infer_instance
def costAt (d t : List Int) (c f a : Int) : Int := wrap64 (wrap64 (rd t (16 * f + 2 * a) + rd t (16 * (f + a) + 2 * (c - a))) + wrap64 (wrap64 (rd d f * rd d (f + a)) * rd d (f + c)))
def putAt (d t : List Int) (c f a : Int) : List Int := (t.set (16 * f + 2 * c).toNat (costAt d t c f a)).set (16 * f + 2 * c + 1).toNat a
mutual
def impl_bests.l0 : Nat → List Int → List Int → Int → Int → Option (List Int)
  | 0, _, _, _, _ => none
  | k + 1, d, t, n, c => if c ≤ n then (impl_bests.l1 k d t n c (wrap64 (wrap64 (n - c) + 1)) 0) else (some t)
def impl_bests.l1 : Nat → List Int → List Int → Int → Int → Int → Int → Option (List Int)
  | 0, _, _, _, _, _, _ => none
  | k + 1, d, t, n, c, m, f => if f < m then (impl_bests.l2 k d t n c m f 1) else (impl_bests.l0 k d t n (wrap64 (c + 1)))
def impl_bests.l2 : Nat → List Int → List Int → Int → Int → Int → Int → Int → Option (List Int)
  | 0, _, _, _, _, _, _, _ => none
  | k + 1, d, t, n, c, m, f, a => if a < c then (if Gd d t c f a then (if a = 1 then (impl_bests.l2 k d (putAt d t c f a) n c m f (wrap64 (a + 1))) else (if costAt d t c f a < rd t (16 * f + 2 * c) then (impl_bests.l2 k d (putAt d t c f a) n c m f (wrap64 (a + 1))) else (impl_bests.l2 k d t n c m f (wrap64 (a + 1))))) else (none)) else (impl_bests.l1 k d t n c m (wrap64 (f + 1)))
end
def impl_bests.f (k : Nat) (l0 : List Int) : Option (List Int) := impl_bests.l0 k l0 (List.replicate 112 0) (wrap64 ((l0.length : Int) - 1)) 2
theorem impl_bests.mono_l : ∀ k, (∀ y0 y1 y2 y3, LeO (impl_bests.l0 k y0 y1 y2 y3) (impl_bests.l0 (k + 1) y0 y1 y2 y3)) ∧ (∀ y0 y1 y2 y3 y4 y5, LeO (impl_bests.l1 k y0 y1 y2 y3 y4 y5) (impl_bests.l1 (k + 1) y0 y1 y2 y3 y4 y5)) ∧ (∀ y0 y1 y2 y3 y4 y5 y6, LeO (impl_bests.l2 k y0 y1 y2 y3 y4 y5 y6) (impl_bests.l2 (k + 1) y0 y1 y2 y3 y4 y5 y6))
  | 0 => ⟨fun _ _ _ _ r h => by simp [impl_bests.l0] at h, fun _ _ _ _ _ _ r h => by simp [impl_bests.l1] at h, fun _ _ _ _ _ _ _ r h => by simp [impl_bests.l2] at h⟩
  | k + 1 => by
    obtain ⟨ih0, ih1, ih2⟩ := impl_bests.mono_l k
    refine ⟨?_, ?_, ?_⟩
    · intro y0 y1 y2 y3
      unfold impl_bests.l0
      repeat' first
      | (with_reducible exact ih1 _ _ _ _ _ _)
      | (with_reducible exact LeO.refl _)
      | (with_reducible refine LeO.ite ?_ ?_)
    · intro y0 y1 y2 y3 y4 y5
      unfold impl_bests.l1
      repeat' first
      | (with_reducible exact ih2 _ _ _ _ _ _ _)
      | (with_reducible exact ih0 _ _ _ _)
      | (with_reducible exact LeO.refl _)
      | (with_reducible refine LeO.ite ?_ ?_)
    · intro y0 y1 y2 y3 y4 y5 y6
      unfold impl_bests.l2
      repeat' first
      | (with_reducible exact ih2 _ _ _ _ _ _ _)
      | (with_reducible exact ih1 _ _ _ _ _ _)
      | (with_reducible exact LeO.refl _)
      | (with_reducible exact LeO.none _)
      | (with_reducible refine LeO.ite ?_ ?_)
theorem impl_bests.mono : ∀ a0 k, LeO (impl_bests.f k a0) (impl_bests.f (k + 1) a0) := by
  intro a0 k
  exact (impl_bests.mono_l k).1 _ _ _ _
theorem wrap64_id {n : Int} (h0 : -9223372036854775808 ≤ n) (h1 : n ≤ 9223372036854775807) : wrap64 n = n := by
  unfold wrap64
  omega
/-- The table's cells. -/
def tabCs (t : List Int) : Array Value := (encs (Value.int .i64) t).toArray
theorem tab_cell {w : World} {g T : Nat} {t : List Int} (h : w.heap[g]? = some (.cells (tabCs t) T (0, 0))) (hl : t.length = 112) {i : Int} {o : Nat} (h0 : 0 ≤ i) (h1 : i < 112) (ho : (o : Int) = i) : w.cell? ⟨g, o, none⟩ = some (.int .i64 (rd t i)) := by
  subst ho
  rw [blk_cell h]
  unfold tabCs
  rw [List.getElem?_toArray, encs_get (d := (0 : Int)) t o (by omega)]
  rfl
theorem tabCs_set (t : List Int) (o : Nat) (x : Int) : (tabCs t).setIfInBounds o (.int .i64 x) = tabCs (t.set o x) := by
  unfold tabCs encs
  simp [List.map_set]
theorem tab_size {t : List Int} (h : t.length = 112) : Tryd.zeroCells61.size = (tabCs t).size := by
  have : (tabCs t).size = 112 := by simp [tabCs, encs, h]
  rw [this]
  rfl
theorem tab_info0 : (Tryd.prog.info? 61).map (·.size) = some 112 := by kernel_rfl
theorem tab_info {t : List Int} (h : t.length = 112) : (Tryd.prog.info? 61).map (·.size) = some (tabCs t).size := by
  have : (tabCs t).size = 112 := by simp [tabCs, encs, h]
  rw [this]
  exact tab_info0
theorem tab_one (t : List Int) : (tabCs t).all (·.oneCell') = true := by
  rw [Array.all_eq_true_iff_forall_mem]
  intro v hv
  unfold tabCs encs at hv
  simp only [List.mem_toArray, List.mem_map] at hv
  obtain ⟨x, _, rfl⟩ := hv
  rfl
theorem tab_there {w : World} {g T : Nat} {t : List Int} {o : Nat} (h : w.heap[g]? = some (.cells (tabCs t) T (0, 0))) (hl : t.length = 112) (ho : o + 2 ≤ 112) : w.there g o 2 := by
  intro j hj
  refine ⟨?_, blk_frozen h _⟩
  rw [blk_cell h]
  unfold tabCs
  rw [List.getElem?_toArray, encs_get (d := (0 : Int)) t (o + j) (by omega)]
  rfl
theorem tab_put {w : World} {g T : Nat} {t d : List Int} {o : Nat} {c f a : Int} (h : w.heap[g]? = some (.cells (tabCs t) T (0, 0))) (h0 : (o : Int) = 16 * f + 2 * c) (h1 : ((o + 1 : Nat) : Int) = 16 * f + 2 * c + 1) :
    (w.setCells g o (#[.int .i64 (costAt d t c f a), .int .i64 a] : Array Value).toList).heap[g]? = some (.cells (tabCs (putAt d t c f a)) T (0, 0)) := by
  have e0 : (16 * f + 2 * c).toNat = o := by omega
  have e1 : (16 * f + 2 * c + 1).toNat = o + 1 := by omega
  have h2 := blk_set (blk_set h o (.int .i64 (costAt d t c f a))) (o + 1) (.int .i64 a)
  rw [tabCs_set, tabCs_set] at h2
  unfold putAt
  rw [e0, e1]
  exact h2
theorem far_put {w : World} {g g' o : Nat} {T : TypeId} {cs : Array Value} {x y : Value} (h : w.heap[g']? = some (.cells cs T (0, 0))) (hne : g' ≠ g) : (w.setCells g o (#[x, y] : Array Value).toList).heap[g']? = some (.cells cs T (0, 0)) :=
  blk_far (blk_far h (p := ⟨g, o, none⟩) hne x) (p := ⟨g, o + 1, none⟩) hne y
theorem below_put {w w' : World} {g o : Nat} {x y : Value} (h : Below w.heap.size w w') (hg : w.heap.size ≤ g) : Below w.heap.size w (w'.setCells g o (#[x, y] : Array Value).toList) :=
  below_set (below_set h (j := o) (v := x) hg) (j := o + 1) (v := y) hg
set_option maxHeartbeats 8000000 in
set_option maxRecDepth 100000 in
theorem impl_bests.calls (k : Nat) (A0 : Option Addr) (c0 : Nat) (l0 : List Int) (r : List Int) (w : World) (hr0 : Kd.C (Kd.int .i64) w A0 l0.length l0) (hc0 : l0.length ≤ c0) (h : impl_bests.f k l0 = some r) :
    Calls Tryd.prog 37 #[.slice A0 l0.length c0] w fun e w' => e = .returned (.agg (tabCs r)) ∧ Below w.heap.size w w' := by
  have HR0 := Aside0.mk hr0
  have HC0 := Aside0.mk hc0
  clear hr0 hc0
  have HB := Aside0.mk (Below.refl w.heap.size w)
  have H : impl_bests.l0 k l0 (List.replicate 112 0) (wrap64 ((l0.length : Int) - 1)) 2 = some r := h
  clear h
  have H' := Aside0.mk H
  clear H
  go_enter Tryd.func37, Tryd.ntmps37
  go_wp2
  have BT0 : Aside0 (((w.alloc (Obj.cells Tryd.zeroCells61 61)).alloc (Obj.cells Tryd.zeroCells61 61)).heap[w.heap.size + 1]? = some (.cells (tabCs (List.replicate 112 0)) 61 (0, 0))) := Aside0.mk (by
    have hn := blk_new (w.alloc (Obj.cells Tryd.zeroCells61 61)) (Obj.cells Tryd.zeroCells61 61)
    rw [show (w.alloc (Obj.cells Tryd.zeroCells61 61)).heap.size = w.heap.size + 1 by simp] at hn
    rw [hn]
    rfl)
  have BR0 : Aside0 (((w.alloc (Obj.cells Tryd.zeroCells61 61)).alloc (Obj.cells Tryd.zeroCells61 61)).heap[w.heap.size]? = some (.cells Tryd.zeroCells61 61 (0, 0))) := Aside0.mk (blk_alloc (blk_new w _) _)
  have BB0 : Aside0 (Below w.heap.size w ((w.alloc (Obj.cells Tryd.zeroCells61 61)).alloc (Obj.cells Tryd.zeroCells61 61))) := Aside0.mk (below_alloc (below_alloc HB.out _) _)
  go_loopg [5] k (fun kq v5 w' => ∃ (t1 : List Int) (x5_1 : Int), v5 = .int .i64 x5_1 ∧ Aside0 (impl_bests.l0 kq l0 t1 (wrap64 ((l0.length : Int) - 1)) x5_1 = some r) ∧ Aside0 (kq ≤ k) ∧ Aside0 (w'.heap[w.heap.size + 1]? = some (.cells (tabCs t1) 61 (0, 0))) ∧ Aside0 (w'.heap[w.heap.size]? = some (.cells Tryd.zeroCells61 61 (0, 0))) ∧ Aside0 (Below w.heap.size w w') ∧ Aside0 (t1.length = 112))
  case atStart => exact ⟨_, 2, rfl, H', ⟨Nat.le_refl _⟩, BT0, BR0, BB0, ⟨by simp⟩⟩
  case round =>
    clear H' BT0 BR0 BB0
    obtain ⟨t1, x5_1, rfl, HA, HK1, BT, BR, HB, HL⟩ := hrel
    cases gk with
    | zero => exact absurd HA.out (by simp [impl_bests.l0])
    | succ k1 =>
      have H := HA.out
      clear HA
      simp only [impl_bests.l0] at H
      by_cases c5 : x5_1 ≤ (wrap64 ((l0.length : Int) - 1))
      · rw [if_pos c5] at H
        have c5b0 : decide (x5_1 ≤ (wrap64 ((l0.length : Int) - 1))) = true := decide_eq_true c5
        clear c5
        have H' := Aside0.mk H
        clear H
        go_wp2
        go_loopg [21] k1 (fun kq v21 w' => ∃ (t2 : List Int) (x21_2 : Int), v21 = .int .i64 x21_2 ∧ Aside0 (impl_bests.l1 kq l0 t2 (wrap64 ((l0.length : Int) - 1)) x5_1 (wrap64 ((wrap64 ((wrap64 ((l0.length : Int) - 1)) - x5_1)) + 1)) x21_2 = some r) ∧ Aside0 (kq ≤ k1) ∧ Aside0 (w'.heap[w.heap.size + 1]? = some (.cells (tabCs t2) 61 (0, 0))) ∧ Aside0 (w'.heap[w.heap.size]? = some (.cells Tryd.zeroCells61 61 (0, 0))) ∧ Aside0 (Below w.heap.size w w') ∧ Aside0 (t2.length = 112))
        case atStart => exact ⟨t1, 0, rfl, H', ⟨Nat.le_refl _⟩, BT, BR, HB, HL⟩
        case round =>
          clear H' BT BR HB HL
          obtain ⟨t2, x21_2, rfl, HA, HK2, BT, BR, HB, HL⟩ := hrel
          cases gk with
          | zero => exact absurd HA.out (by simp [impl_bests.l1])
          | succ k2 =>
            have H := HA.out
            clear HA
            simp only [impl_bests.l1] at H
            by_cases c6 : x21_2 < (wrap64 ((wrap64 ((wrap64 ((l0.length : Int) - 1)) - x5_1)) + 1))
            · rw [if_pos c6] at H
              have c6b0 : decide (x21_2 < (wrap64 ((wrap64 ((wrap64 ((l0.length : Int) - 1)) - x5_1)) + 1))) = true := decide_eq_true c6
              clear c6
              have H' := Aside0.mk H
              clear H
              go_wp2
              go_loopg [7] k2 (fun kq v7 w' => ∃ (t3 : List Int) (x7_3 : Int), v7 = .int .i64 x7_3 ∧ Aside0 (impl_bests.l2 kq l0 t3 (wrap64 ((l0.length : Int) - 1)) x5_1 (wrap64 ((wrap64 ((wrap64 ((l0.length : Int) - 1)) - x5_1)) + 1)) x21_2 x7_3 = some r) ∧ Aside0 (kq ≤ k2) ∧ Aside0 (w'.heap[w.heap.size + 1]? = some (.cells (tabCs t3) 61 (0, 0))) ∧ Aside0 (w'.heap[w.heap.size]? = some (.cells Tryd.zeroCells61 61 (0, 0))) ∧ Aside0 (Below w.heap.size w w') ∧ Aside0 (t3.length = 112))
              case atStart => exact ⟨t2, 1, rfl, H', ⟨Nat.le_refl _⟩, BT, BR, HB, HL⟩
              case round =>
                clear H' BT BR HB HL
                obtain ⟨t3, x7_3, rfl, HA, HK3, BT, BR, HB, HL⟩ := hrel
                cases gk with
                | zero => exact absurd HA.out (by simp [impl_bests.l2])
                | succ k3 =>
                  have H := HA.out
                  clear HA
                  simp only [impl_bests.l2] at H
                  by_cases c7 : x7_3 < x5_1
                  · rw [if_pos c7] at H
                    have c7b0 : decide (x7_3 < x5_1) = true := decide_eq_true c7
                    clear c7
                    by_cases c8 : Gd l0 t3 x5_1 x21_2 x7_3
                    · rw [if_pos c8] at H
                      obtain ⟨g0, g1, g2, g3, g4, g5⟩ := c8
                      have e8 : wrap64 (x7_3 + 1) = x7_3 + 1 := wrap64_id (by omega) (by omega)
                      rw [e8] at H
                      clear e8
                      have HC := Kd.C_below HR0.out HB.out
                      have e1 : wrap64 (x21_2 + x7_3) = x21_2 + x7_3 := wrap64_id (by omega) (by omega)
                      have e2 : wrap64 (x5_1 - x7_3) = x5_1 - x7_3 := wrap64_id (by omega) (by omega)
                      have e3 : wrap64 (x21_2 + x5_1) = x21_2 + x5_1 := wrap64_id (by omega) (by omega)
                      have p1 := eq_true (show 0 ≤ x21_2 by omega)
                      have q1 := eq_true (show x21_2 < 7 by omega)
                      have p2 := eq_true (show 0 ≤ x7_3 by omega)
                      have q2 := eq_true (show x7_3 < 8 by omega)
                      have p3 := eq_true (show 0 ≤ x21_2 + x7_3 by omega)
                      have q3 := eq_true (show x21_2 + x7_3 < 7 by omega)
                      have p4 := eq_true (show 0 ≤ x5_1 - x7_3 by omega)
                      have q4 := eq_true (show x5_1 - x7_3 < 8 by omega)
                      obtain ⟨ad1, ea1, hx1⟩ := Kd.at_int HC x21_2 (by omega) (by omega)
                      obtain ⟨ad2, ea2, hx2⟩ := Kd.at_int HC (x21_2 + x7_3) (by omega) (by omega)
                      obtain ⟨ad3, ea3, hx3⟩ := Kd.at_int HC (x21_2 + x5_1) (by omega) (by omega)
                      cases ea1
                      cases ea2
                      cases ea3
                      have p5 := eq_true (show 0 ≤ x21_2 + x5_1 by omega)
                      have q5 := eq_true (show x21_2 < (l0.length : Int) by omega)
                      have q6 := eq_true (show x21_2 + x7_3 < (l0.length : Int) by omega)
                      have q7 := eq_true (show x21_2 + x5_1 < (l0.length : Int) by omega)
                      have hx4 : wr.cell? ⟨w.heap.size + 1, x21_2.toNat * 16 + x7_3.toNat * 2, none⟩ = some (.int .i64 (rd t3 (16 * x21_2 + 2 * x7_3))) := tab_cell BT.out g5 (by omega) (by omega) (by omega)
                      have hx5 : wr.cell? ⟨w.heap.size + 1, (x21_2 + x7_3).toNat * 16 + (x5_1 - x7_3).toNat * 2, none⟩ = some (.int .i64 (rd t3 (16 * (x21_2 + x7_3) + 2 * (x5_1 - x7_3)))) := tab_cell BT.out g5 (by omega) (by omega) (by omega)
                      have hs1 : wr.cell? ⟨w.heap.size + 1, x21_2.toNat * 16 + x5_1.toNat * 2, none⟩ = some (.int .i64 (rd t3 (16 * x21_2 + 2 * x5_1))) := tab_cell BT.out g5 (by omega) (by omega) (by omega)
                      have hs2 : wr.cell? ⟨w.heap.size + 1, x21_2.toNat * 16 + x5_1.toNat * 2 + 1, none⟩ = some (.int .i64 (rd t3 (16 * x21_2 + 2 * x5_1 + 1))) := tab_cell BT.out g5 (by omega) (by omega) (by omega)
                      have hf1 : wr.frozen? ⟨w.heap.size + 1, x21_2.toNat * 16 + x5_1.toNat * 2, none⟩ = false := blk_frozen BT.out _
                      have hf2 : wr.frozen? ⟨w.heap.size + 1, x21_2.toNat * 16 + x5_1.toNat * 2 + 1, none⟩ = false := blk_frozen BT.out _
                      by_cases c33 : x7_3 = 1
                      · rw [if_pos c33] at H
                        have c33b0 : (x7_3 == 1) = true := beq_iff_eq.mpr c33
                        have p8 := eq_true (show 0 ≤ x5_1 by omega)
                        have q8 := eq_true (show x5_1 < 8 by omega)
                        have H' := Aside0.mk H
                        clear H
                        clear c33
                        go_wp2
                        repeat (go_quiet (fail); try go_wp2)
                        go_roundg k3
                        case measure => have := HK1.out; have := HK2.out; have := HK3.out; omega
                        case rel => exact ⟨_, _, rfl, H', ⟨by have := HK1.out; have := HK2.out; have := HK3.out; omega⟩, ⟨tab_put (by (with_reducible repeat (first | refine blk_drewN ?_ _ | refine blk_drew ?_)); exact BT.out) (by omega) (by omega)⟩, ⟨far_put (by (with_reducible repeat (first | refine blk_drewN ?_ _ | refine blk_drew ?_)); exact BR.out) (by omega)⟩, ⟨below_put (by repeat (first | (with_reducible first | exact HB.out | apply below_alloc | apply pw_below_drewN | apply below_drew1) | exact HB.out)) (by omega)⟩, ⟨by unfold putAt; rw [List.length_set, List.length_set]; exact g5⟩⟩
                      · rw [if_neg c33] at H
                        have c33b0 : (x7_3 == 1) = false := beq_eq_false_iff_ne.mpr c33
                        clear c33
                        have p8 := eq_true (show 0 ≤ x5_1 by omega)
                        have q8 := eq_true (show x5_1 < 8 by omega)
                        by_cases c34 : costAt l0 t3 x5_1 x21_2 x7_3 < rd t3 (16 * x21_2 + 2 * x5_1)
                        · rw [if_pos c34] at H
                          have c34b0 : decide (wrap64 (wrap64 (rd t3 (16 * x21_2 + 2 * x7_3) + rd t3 (16 * (x21_2 + x7_3) + 2 * (x5_1 - x7_3))) + wrap64 (wrap64 (rd l0 x21_2 * rd l0 (x21_2 + x7_3)) * rd l0 (x21_2 + x5_1))) < rd t3 (16 * x21_2 + 2 * x5_1)) = true := decide_eq_true c34
                          have H' := Aside0.mk H
                          clear H
                          clear c34
                          go_wp2
                          repeat (go_quiet (fail); try go_wp2)
                          go_roundg k3
                          case measure => have := HK1.out; have := HK2.out; have := HK3.out; omega
                          case rel => exact ⟨_, _, rfl, H', ⟨by have := HK1.out; have := HK2.out; have := HK3.out; omega⟩, ⟨tab_put (by (with_reducible repeat (first | refine blk_drewN ?_ _ | refine blk_drew ?_)); exact BT.out) (by omega) (by omega)⟩, ⟨far_put (by (with_reducible repeat (first | refine blk_drewN ?_ _ | refine blk_drew ?_)); exact BR.out) (by omega)⟩, ⟨below_put (by repeat (first | (with_reducible first | exact HB.out | apply below_alloc | apply pw_below_drewN | apply below_drew1) | exact HB.out)) (by omega)⟩, ⟨by unfold putAt; rw [List.length_set, List.length_set]; exact g5⟩⟩
                        · rw [if_neg c34] at H
                          have c34b0 : decide (wrap64 (wrap64 (rd t3 (16 * x21_2 + 2 * x7_3) + rd t3 (16 * (x21_2 + x7_3) + 2 * (x5_1 - x7_3))) + wrap64 (wrap64 (rd l0 x21_2 * rd l0 (x21_2 + x7_3)) * rd l0 (x21_2 + x5_1))) < rd t3 (16 * x21_2 + 2 * x5_1)) = false := decide_eq_false c34
                          have H' := Aside0.mk H
                          clear H
                          clear c34
                          go_wp2
                          repeat (go_quiet (fail); try go_wp2)
                          go_roundg k3
                          case measure => have := HK1.out; have := HK2.out; have := HK3.out; omega
                          case rel => exact ⟨t3, _, rfl, H', ⟨by have := HK1.out; have := HK2.out; have := HK3.out; omega⟩, ⟨by (with_reducible repeat (first | refine blk_drewN ?_ _ | refine blk_drew ?_)); exact BT.out⟩, ⟨by (with_reducible repeat (first | refine blk_drewN ?_ _ | refine blk_drew ?_)); exact BR.out⟩, ⟨by repeat (first | (with_reducible first | exact HB.out | apply below_alloc | apply pw_below_drewN | apply below_drew1) | exact HB.out)⟩, ⟨g5⟩⟩
                    · rw [if_neg c8] at H
                      exact absurd H (by simp)
                  · rw [if_neg c7] at H
                    have c7b0 : decide (x7_3 < x5_1) = false := decide_eq_false c7
                    clear c7
                    have H' := Aside0.mk H
                    clear H
                    go_wp2
                    repeat (go_quiet (fail); try go_wp2)
                    go_roundg k3
                    case measure => have := HK1.out; have := HK2.out; have := HK3.out; omega
                    case rel => exact ⟨t3, _, rfl, H', ⟨by have := HK1.out; have := HK2.out; have := HK3.out; omega⟩, BT, BR, HB, HL⟩
            · rw [if_neg c6] at H
              have c6b0 : decide (x21_2 < (wrap64 ((wrap64 ((wrap64 ((l0.length : Int) - 1)) - x5_1)) + 1))) = false := decide_eq_false c6
              clear c6
              have H' := Aside0.mk H
              clear H
              go_wp2
              repeat (go_quiet (fail); try go_wp2)
              go_roundg k2
              case measure => have := HK1.out; have := HK2.out; omega
              case rel => exact ⟨t2, _, rfl, H', ⟨by have := HK1.out; have := HK2.out; omega⟩, BT, BR, HB, HL⟩
      · rw [if_neg c5] at H
        have c5b0 : decide (x5_1 ≤ (wrap64 ((l0.length : Int) - 1))) = false := decide_eq_false c5
        clear c5
        obtain rfl := Option.some.inj H
        have hl1 : t1.length = 112 := HL.out
        go_wp2_with (first | ((with_reducible refine gate_dst (N := 85) rfl ?_); refine wpList_load_row rfl 61 (.tmp 3) rfl (w.heap.size + 1) rfl 61 (tabCs t1) (0, 0) _ BT.out Tryd.underlying61 rfl (tab_info hl1) ?_) | ((with_reducible refine gate_store (t := 61) (p := 2) (v := .tmp 85) rfl ?_); refine wpList_store_row rfl 61 (.tmp 2) (.tmp 85) rfl (w.heap.size) (tabCs t1) rfl rfl 61 Tryd.zeroCells61 BR.out (tab_info hl1) (tab_size hl1) (tab_one t1) ?_))
        have hs := setRow_heap wr w.heap.size Tryd.zeroCells61 (tabCs t1) 61 (0, 0) BR.out
        refine bodyPost_ret (results_cell_row rfl _ _ w.heap.size 61 (tabCs t1) (0, 0) _ rfl hs Tryd.underlying61 rfl (tab_info hl1)) rfl ?_
        exact ⟨rfl, below_setRow HB.out (Nat.le_refl _) _⟩
end Go.Proofs.YtokhjlaomgimmaaDoor.PFnChains
